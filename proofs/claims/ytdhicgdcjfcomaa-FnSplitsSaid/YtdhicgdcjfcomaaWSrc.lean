/- Walks of the source of choices: l00Src. -/
import Derived.Test.YtdhicgdcjfcomaaB0
import Derived.Test.YtdhicgdcjfcomaaB2
import Derived.Test.YtdhicgdcjfcomaaWMark
import Derived.Laws.Bits64b
import Derived.IntWalk
namespace Go.Proofs.Ytdhicgdcjfcomaa
open Go.RowKit

/-- the slice at A has n bytes -/
def Byt (w : World) (A : Option Addr) (n : Nat) : Prop :=
  0 < n → ∃ b o, A = some ⟨b, o, none⟩ ∧ b < w.heap.size ∧ ∀ j, j < n → ∃ x : Int, 0 ≤ x ∧ x ≤ 255 ∧ w.cell? ⟨b, o + j, none⟩ = some (.int .u8 x)
theorem Byt.only {w w' : World} {S : Nat → Prop} {A : Option Addr} {n : Nat} (h : Byt w A n) (ho : Only S w w') (hS : ∀ q, q < w.heap.size → InB n A q → ¬ S q) : Byt w' A n := fun hn => by
  obtain ⟨b, o, e, hl, hc⟩ := h hn
  refine ⟨b, o, e, Nat.lt_of_lt_of_le hl ho.size, fun j hj => ?_⟩
  obtain ⟨x, x0, x1, hx⟩ := hc j hj
  exact ⟨x, x0, x1, (ho.cell (a := ⟨b, o + j, none⟩) hl (hS b hl ⟨hn, o, e⟩)).trans hx⟩

/-- a source behind p; what it has read, at most B -/
structure SrcIs (w : World) (p : Nat) (A : Option Addr) (n cap at_ : Nat) (seed : Int) : Prop where
  cells : Cells w p 53 [.slice A n cap, .int .i64 at_, .int .u64 seed]
  bytes : Byt w A n
  lim : n ≤ 4611686018427387904
  s0 : 0 ≤ seed
  s1 : seed ≤ 18446744073709551615
  far : ∀ q, InB n A q → q < p
def Src (w : World) (p : Nat) (B : Nat) : Prop := ∃ A n cap at_ seed, SrcIs w p A n cap at_ seed ∧ at_ ≤ B
theorem SrcIs.only {w w' : World} {S : Nat → Prop} {p : Nat} {A : Option Addr} {n cap at_ : Nat} {seed : Int} (h : SrcIs w p A n cap at_ seed) (ho : Only S w w') (hp : ¬ S p) (hS : ∀ q, q < w.heap.size → InB n A q → ¬ S q) : SrcIs w' p A n cap at_ seed :=
  ⟨(ho.block p h.cells.lt hp).trans h.cells, h.bytes.only ho hS, h.lim, h.s0, h.s1, h.far⟩
theorem Src.below {w w' : World} {p B : Nat} (h : Src w p B) (hb : Below w.heap.size w w') : Src w' p B := by
  obtain ⟨A, n, cap, at_, seed, h, hB⟩ := h
  exact ⟨A, n, cap, at_, seed, h.only (S := fun _ => False) (Only.of_below hb) (fun h => h) (fun _ _ _ h => h), hB⟩
theorem Src.lt {w : World} {p B : Nat} (h : Src w p B) : p < w.heap.size := by
  obtain ⟨A, n, cap, at_, seed, h, _⟩ := h; exact h.cells.lt
theorem Src.mono {w : World} {p B B' : Nat} (h : Src w p B) (hb : B ≤ B') : Src w p B' := by
  obtain ⟨A, n, cap, at_, seed, h, hB⟩ := h; exact ⟨A, n, cap, at_, seed, h, by omega⟩

theorem wrapU (x : Int) : 0 ≤ IntKind.u64.wrap x ∧ IntKind.u64.wrap x ≤ 18446744073709551615 := by
  unfold IntKind.wrap
  simp [IntKind.signed, IntKind.bits]
  omega
theorem Only.set1 {S : Nat → Prop} {a w : World} (h : Only S a w) {q : Addr} (hq : S q.block) (u : Value) : Only S a (w.setCell q u) :=
  ⟨h.os, h.tape, h.output, by have := h.size; simpa [World.setCell] using this, fun k hk hs => (Below.heap_setCell w q u k (fun e => hs (by rw [e]; exact hq))).trans (h.block k hk hs)⟩

theorem byte_of (sd : Int) (h0 : 0 ≤ sd) (h1 : sd ≤ 18446744073709551615) : wrap64 (bits .and .u64 (sd / 1099511627776) 255) = sd / 1099511627776 % 256 := by
  obtain ⟨n, rfl⟩ := Int.eq_ofNat_of_zero_le h0
  have e : ((n : Int) / 1099511627776) = ((n / 1099511627776 : Nat) : Int) := by omega
  have h := bits_and_u64_nat (n / 1099511627776) 255 (by omega) (by omega)
  have h2 : (n / 1099511627776) &&& 255 = n / 1099511627776 % 256 := Nat.and_two_pow_sub_one_eq_mod _ 8
  rw [h2] at h
  rw [e]
  have h3 : ((255 : Nat) : Int) = 255 := rfl
  rw [h3] at h
  rw [h]
  have h4 : wrap64 ((n / 1099511627776 % 256 : Nat) : Int) = ((n / 1099511627776 % 256 : Nat) : Int) := IntWalk.wrap64_in _ (by omega)
  rw [h4]; omega
/-- what a draw comes to: a number that meets P -/
def DrawPost (p B : Nat) (P : Int → Prop) (w : World) (e : Ending) (w' : World) : Prop :=
  ∃ x : Int, e = .returned (.int .i64 x) ∧ P x ∧ Src w' p B ∧ Only (fun q => q = p) w w'

set_option maxHeartbeats 1000000 in
theorem next_any (p B : Nat) (w : World) (h : Src w p B) (hB : B ≤ 4611686018427387904) :
    Calls Try.prog 26 #[.pointer (some ⟨p, 0, none⟩)] w (DrawPost p (B + 1) (fun x => 0 ≤ x ∧ x ≤ 255) w) := by
  obtain ⟨A, n, cap, at_, seed, h, hat⟩ := h
  have H := Lib.hid h
  have f0 : w.cell? ⟨p, 0, none⟩ = some (.slice A n cap) := by rw [h.cells.cell]; rfl
  have f1 : w.cell? ⟨p, 1, none⟩ = some (.int .i64 at_) := by rw [h.cells.cell]; rfl
  have f2 : w.cell? ⟨p, 2, none⟩ = some (.int .u64 seed) := by rw [h.cells.cell]; rfl
  have z1 : w.frozen? ⟨p, 1, none⟩ = false := h.cells.frozen _
  have z2 : w.frozen? ⟨p, 2, none⟩ = false := h.cells.frozen _
  have hl := h.lim
  have s0 := h.s0
  have s1 := h.s1
  clear h
  have hat2 : at_ ≤ 4611686018427387904 := by omega
  by_cases hlt : at_ < n
  · obtain ⟨b, o, rfl, hbl, hc⟩ := H.out.bytes (by omega)
    obtain ⟨x, x0, x1, hx⟩ := hc at_ hlt
    have hbp : b ≠ p := Nat.ne_of_lt (H.out.far b ⟨by omega, o, rfl⟩)
    clear hc
    have hlt' : (at_ : Int) < (n : Int) := by omega
    have hle' : (at_ : Int) + 1 ≤ (n : Int) := by omega
    go_enter Try.func26, Try.ntmps26
    go_wp2
    go_quiet (fail)
    rename Nat => nq
    go_wp2
    go_quiet (fail)
    rename Nat => nq2
    go_wp2
    obtain ⟨sd, hsd, sd0, sd1⟩ : ∃ sd : Int, IntKind.u64.wrap (IntKind.u64.wrap (IntKind.u64.wrap (seed * 6364136223846793005) + x) + 1442695040888963407) = sd ∧ 0 ≤ sd ∧ sd ≤ 18446744073709551615 := ⟨_, rfl, wrapU _⟩
    rw [hsd]
    clear hsd
    have HC : Hid (Cells (((w.drewN (nq + nq2)).setCell ⟨p, 1, none⟩ (.int .i64 ((at_ : Int) + 1))).setCell ⟨p, 2, none⟩ (.int .u64 sd)) p 53 [.slice (some ⟨b, o, none⟩) n cap, .int .i64 ((at_ : Int) + 1), .int .u64 sd]) := ((H.out.cells.drewN (nq + nq2)).set_ 1 _).set_ 2 _
    have HO : Hid (Only (fun q => q = p) w (((w.drewN (nq + nq2)).setCell ⟨p, 1, none⟩ (.int .i64 ((at_ : Int) + 1))).setCell ⟨p, 2, none⟩ (.int .u64 sd))) := Only.set1 (S := fun q => q = p) (Only.set1 (S := fun q => q = p) ((Only.refl _ w).drewN _) rfl _) rfl _
    clear f0 f1 f2 z1 z2 hx
    generalize (((w.drewN (nq + nq2)).setCell ⟨p, 1, none⟩ (.int .i64 ((at_ : Int) + 1))).setCell ⟨p, 2, none⟩ (.int .u64 sd)) = w2 at *
    have f0 : w2.cell? ⟨p, 0, none⟩ = some (.slice (some ⟨b, o, none⟩) n cap) := by rw [HC.out.cell]; rfl
    have f1 : w2.cell? ⟨p, 1, none⟩ = some (.int .i64 ((at_ : Int) + 1)) := by rw [HC.out.cell]; rfl
    have f2 : w2.cell? ⟨p, 2, none⟩ = some (.int .u64 sd) := by rw [HC.out.cell]; rfl
    have HS : Hid (SrcIs w2 p (some ⟨b, o, none⟩) n cap (at_ + 1) sd) := ⟨HC.out, H.out.bytes.only HO.out (fun q _ hq => Nat.ne_of_lt (H.out.far q hq)), hl, sd0, sd1, H.out.far⟩
    go_quiet (fail)
    rename Nat => nq3
    go_wp2
    go_ret
    exact ⟨x, rfl, ⟨x0, x1⟩, ⟨_, _, _, _, _, HS.out.only (S := fun _ => False) ((Only.refl _ _).drewN _) (fun h => h) (fun _ _ _ h => h), by omega⟩, HO.out.drewN _⟩
  · have hge : (n : Int) ≤ (at_ : Int) := by omega
    have hgt : (n : Int) < (at_ : Int) + 1 := by omega
    go_enter Try.func26, Try.ntmps26
    go_wp2
    go_quiet (fail)
    rename Nat => nq
    go_wp2
    obtain ⟨sd, hsd, sd0, sd1⟩ : ∃ sd : Int, IntKind.u64.wrap (IntKind.u64.wrap (IntKind.u64.wrap (seed * 6364136223846793005)) + 1442695040888963407) = sd ∧ 0 ≤ sd ∧ sd ≤ 18446744073709551615 := ⟨_, rfl, wrapU _⟩
    rw [hsd]
    clear hsd
    have HC : Hid (Cells (((w.drewN nq).setCell ⟨p, 1, none⟩ (.int .i64 ((at_ : Int) + 1))).setCell ⟨p, 2, none⟩ (.int .u64 sd)) p 53 [.slice A n cap, .int .i64 ((at_ : Int) + 1), .int .u64 sd]) := ((H.out.cells.drewN nq).set_ 1 _).set_ 2 _
    have HO : Hid (Only (fun q => q = p) w (((w.drewN nq).setCell ⟨p, 1, none⟩ (.int .i64 ((at_ : Int) + 1))).setCell ⟨p, 2, none⟩ (.int .u64 sd))) := Only.set1 (S := fun q => q = p) (Only.set1 (S := fun q => q = p) ((Only.refl _ w).drewN _) rfl _) rfl _
    clear f0 f1 f2 z1 z2 
    generalize (((w.drewN nq).setCell ⟨p, 1, none⟩ (.int .i64 ((at_ : Int) + 1))).setCell ⟨p, 2, none⟩ (.int .u64 sd)) = w2 at *
    have f0 : w2.cell? ⟨p, 0, none⟩ = some (.slice A n cap) := by rw [HC.out.cell]; rfl
    have f1 : w2.cell? ⟨p, 1, none⟩ = some (.int .i64 ((at_ : Int) + 1)) := by rw [HC.out.cell]; rfl
    have f2 : w2.cell? ⟨p, 2, none⟩ = some (.int .u64 sd) := by rw [HC.out.cell]; rfl
    have HS : Hid (SrcIs w2 p A n cap (at_ + 1) sd) := ⟨HC.out, H.out.bytes.only HO.out (fun q _ hq => Nat.ne_of_lt (H.out.far q hq)), hl, sd0, sd1, H.out.far⟩
    go_quiet (fail)
    rename Nat => nq3
    go_wp2
    go_ret
    refine ⟨_, rfl, ?_, ⟨_, _, _, _, _, HS.out.only (S := fun _ => False) ((Only.refl _ _).drewN _) (fun h => h) (fun _ _ _ h => h), by omega⟩, HO.out.drewN _⟩
    show 0 ≤ wrap64 _ ∧ wrap64 _ ≤ 255
    rw [byte_of sd sd0 sd1]
    omega

end Go.Proofs.Ytdhicgdcjfcomaa
