/- Texts put together: WField2, WSerS, WSerS2. -/
import Derived.Test.YtmcaphbngfdfiaaKB
import Derived.Test.YtmcaphbngfdfiaaKG
import Derived.Test.YtmcaphbngfdfiaaKD
import Derived.Deep.RegionLaw

/- Walks: the reference's arithmetic of residues. -/
namespace Go.Proofs.Ytmcaphbngfdfiaa
open Go.RowKit Plain

end Go.Proofs.Ytmcaphbngfdfiaa

/- Walks of the reference's operations on series: l01Const, l01Scale, l01Add, l01Sub, l01Mul, l01Div. -/
namespace Go.Proofs.Ytmcaphbngfdfiaa
open Go.RowKit Plain

/-- the list at A lies in a block of integers, made since there were B blocks -/
def IntsT (w : World) (B : Nat) (A : Option Addr) (zs : List Int) : Prop :=
  0 < zs.length → ∃ b o, A = some ⟨b, o, none⟩ ∧ B ≤ b ∧ b < w.heap.size ∧ Typed w b 2 ∧ ∀ j x, zs[j]? = some x → w.cell? ⟨b, o + j, none⟩ = some (.int .i64 x) ∧ w.frozen? ⟨b, o + j, none⟩ = false
theorem IntsT.m {w : World} {B : Nat} {A : Option Addr} {zs : List Int} (h : IntsT w B A zs) : IntsM w B A zs := fun hn => by
  obtain ⟨b, o, e, h1, h2, _, h3⟩ := h hn
  exact ⟨b, o, e, h1, h2, h3⟩
theorem IntsT.ints {w : World} {B : Nat} {A : Option Addr} {zs : List Int} (h : IntsT w B A zs) : Ints w A zs := h.m.ints
theorem Cells.intsT {w : World} {g B : Nat} {zs : List Int} (h : Cells w g 2 (zs.map (Value.int .i64))) (hB : B ≤ g) : IntsT w B (some ⟨g, 0, none⟩) zs :=
  fun _ => ⟨g, 0, rfl, hB, h.lt, h.typed, fun j x hx => ⟨by rw [h.cell, Nat.zero_add]; simp [hx], h.frozen _⟩⟩
theorem IntRow.intsT {w : World} {base cap : Nat} {A : Option Addr} {l : List Int} (h : IntRow w base (.slice A l.length cap) l) : IntsT w base A l := fun hn => by
  obtain ⟨b, o, e, h1, h2, h3⟩ := h.intsM hn
  exact ⟨b, o, e, h1, h2, own_typed h (by rw [e]; rfl), h3⟩
/-- what a call that makes a list of integers comes to -/
def SPost (zs : List Int) (w : World) (e : Ending) (w' : World) : Prop :=
  ∃ A cp, e = .returned (.slice A zs.length cp) ∧ IntsT w' w.heap.size A zs ∧ Below w.heap.size w w'
theorem SPost.of {zs : List Int} {w : World} {e : Ending} {w' : World} (h : SerPost zs w e w') : SPost zs w e w' :=
  ⟨_, _, h.1, h.2.1.intsT (Nat.le_refl _), h.2.2⟩

theorem IntRow.drewN {w : World} {base : Nat} {v : Value} {l : List Int} (h : IntRow w base v l) (n : Nat) : IntRow (w.drewN n) base v l := h
theorem IntRow.alloc {w : World} {base : Nat} {v : Value} {l : List Int} (h : IntRow w base v l) (o : Obj) : IntRow (w.alloc o) base v l := World.ownsRow.alloc h o
theorem mk_succ (k : Nat) (F : Nat → Int) : mk (k + 1) F = mk k F ++ [F k] := by unfold mk; rw [List.range_succ, List.map_append]; rfl
theorem rowNext {w wr W w2 : World} {k cp : Nat} {Av : Option Addr} {F : Nat → Int} {x : Int} {v2 : Value} (hr : IntRow wr w.heap.size (.slice Av k cp) (mk k F)) (hb : Below w.heap.size w wr) (hW : Below wr.heap.size wr W) (hx : x = F k)
    (hown : w2.ownsRow w.heap.size 2 1 v2 (k + 1) ((mk k F).map (Value.int .i64) ++ [.int .i64 x])) (hg : W.grownBy w2 (Value.slice Av k cp).ownBlock) :
    (∃ A2 c2, v2 = .slice A2 (k + 1) c2) ∧ IntRow w2 w.heap.size v2 (mk (k + 1) F) ∧ Below w.heap.size w w2 := by
  have h1 : IntRow w2 w.heap.size v2 (mk k F ++ [x]) := IntRow.push (mk_length _ _).symm hown
  rw [hx, ← mk_succ] at h1
  obtain ⟨A2, c2, hv⟩ := h1.form
  have hbW := bnext hb hW
  exact ⟨⟨A2, c2, by rw [hv, mk_length]⟩, h1, hbW.grown hg hbW.size (fun q hq => (hr.lt hq).1)⟩
theorem rowEnd {w wr : World} {k cp : Nat} {Av : Option Addr} {F : Nat → Int} (hr : IntRow wr w.heap.size (.slice Av k cp) (mk k F)) (hb : Below w.heap.size w wr) : SPost (mk k F) w (.returned (.slice Av k cp)) wr := by
  have h : IntRow wr w.heap.size (.slice Av (mk k F).length cp) (mk k F) := by rw [mk_length]; exact hr
  exact ⟨Av, cp, by rw [mk_length], h.intsT, hb⟩
theorem rowStart (w : World) (F : Nat → Int) : IntRow (w.alloc (.cells #[] 2)) w.heap.size (.slice (some ⟨w.heap.size, 0, none⟩) 0 0) (mk 0 F) :=
  World.ownsRow_lit w #[] 0 (Nat.le_refl _) (by unfold maxLen; omega) (by rfl)

end Go.Proofs.Ytmcaphbngfdfiaa

/- Walks of the reference's operations on series: l01Sub, l01Mul, l01Div; of the program's scaled and reduced. -/
namespace Go.Proofs.Ytmcaphbngfdfiaa
open Go.RowKit Plain

theorem SPost.from {zs : List Int} {w w0 : World} {e : Ending} {w' : World} (hb : Below w.heap.size w w0) (h : SPost zs w0 e w') : SPost zs w e w' := by
  obtain ⟨A, cp, h1, h2, h3⟩ := h
  refine ⟨A, cp, h1, fun hn => ?_, bnext hb h3⟩
  obtain ⟨b, o, e1, e2, e3, e4, e5⟩ := h2 hn
  exact ⟨b, o, e1, Nat.le_trans hb.size e2, e3, e4, e5⟩

theorem sub_eq {a b : List Int} (hl : b.length = a.length) : addL a (mk b.length fun k => tm (cf b k) 1000002) = mk a.length fun k => rs (cf a k - cf b k) := by
  unfold addL
  refine mk_congr fun k hk => ?_
  rw [cf_mk (by omega)]
  unfold pl tm rs
  omega

theorem mulS_step (a b : List Int) (k i : Nat) : pl (rs (mulT a b k i)) (tm (cf a i) (cf b (k - i))) = rs (mulT a b k (i + 1)) := by
  rw [← mulT_step]; unfold pl tm; omega

theorem divS_step (a b : List Int) (k j : Nat) : rs (rs (cf a k - divS a b k j) - tm (cf (divL a b) j) (cf b (k - j))) = rs (cf a k - divS a b k (j + 1)) := by
  have : divS a b k (j + 1) = divS a b k j + cf (divL a b) j * cf b (k - j) := rfl
  rw [this]; unfold rs tm; omega

end Go.Proofs.Ytmcaphbngfdfiaa
