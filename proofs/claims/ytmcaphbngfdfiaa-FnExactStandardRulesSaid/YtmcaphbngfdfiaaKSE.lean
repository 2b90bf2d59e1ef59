/- Texts put together: WGath2. -/
import Derived.Test.YtmcaphbngfdfiaaKSD
import Derived.Test.YtmcaphbngfdfiaaKSA
import Derived.Test.YtmcaphbngfdfiaaKB
import Derived.Deep.RegionHeld3
import Derived.StillTailTactics
import Derived.Deep.LoopGhost
import Derived.Deep.RegionLaw
import Derived.BigQuiet

/- Walks: gathered: terms in any order become a polynomial in its one form. -/
namespace Go.Proofs.Ytmcaphbngfdfiaa
open Go.RowKit Plain

theorem keep3g {w w' : World} {p q r : Addr} {a b c : Value} (h : w.cell? p = some a ∧ w.cell? q = some b ∧ w.cell? r = some c) (hb : Below w.heap.size w w') : w'.cell? p = some a ∧ w'.cell? q = some b ∧ w'.cell? r = some c :=
  ⟨keepC h.1 hb, keepC h.2.1 hb, keepC h.2.2 hb⟩
theorem cell_tm_new (w : World) (u : Value) (c : Int) (t : TypeId) (j : Nat) (x : Value) (h : [u, Value.int .i64 c][j]? = some x) : (w.alloc (.cells #[u, .int .i64 c] t)).cell? ((Addr.mk w.heap.size 0 none).add j) = some x := by
  have hc := (Cells.new w t [u, .int .i64 c]).cell j
  rw [addr_add, Nat.zero_add]
  exact hc.trans h
theorem one_tm {A : Option Addr} {n k : Nat} (c : Int) : ∀ u ∈ [Value.slice A n k, .int .i64 c], u.oneCell' = true := fun u hu => by
  simp at hu; rcases hu with rfl | rfl <;> rfl
/-- a polynomial that has been gathered -/
def GathPost (vars : Int) (A : Option Addr) (n : Nat) (ts : List Term') (w : World) (e : Ending) (w' : World) : Prop :=
  ∃ (A' : Option Addr) (cap' : Nat) (ts' : List Term'), e = .returned (poV vars A' ts'.length cap') ∧ RT w' w.heap.size w'.heap.size A' ts' ∧ Canon ts' ∧ (∀ e, cof ts' e = cof ts e) ∧ ts'.length ≤ ts.length ∧ LenT n ts' ∧ Only (InB ts.length A) w w'
/-- what stands while terms are gathered -/
structure GSt (W0 : World) (p B : Nat) (vars : Int) (us out : List Term') (i m cp : Nat) (A : Option Addr) (wr : World) : Prop where
  box : Cells wr p 64 [.int .i64 vars, .slice A m cp]
  len : out.length = m
  row : TRow wr B (.slice A m cp) out
  inv : GInv us i out
  only : Only (fun q => q = p) W0 wr
  pB : p < B
  B0 : B = W0.heap.size
theorem GSt.next {W0 wr w1 : World} {p B : Nat} {vars : Int} {us out : List Term'} {i m cp : Nat} {A : Option Addr} (h : GSt W0 p B vars us out i m cp A wr) (hb : Below wr.heap.size wr w1) : GSt W0 p B vars us out i m cp A w1 :=
  ⟨h.box.next hb, h.len, h.row.below hb, h.inv, h.only.trans (Only.of_below hb), h.pB, h.B0⟩
theorem GSt.size {W0 wr : World} {p B : Nat} {vars : Int} {us out : List Term'} {i m cp : Nat} {A : Option Addr} (h : GSt W0 p B vars us out i m cp A wr) : B ≤ wr.heap.size := by rw [h.B0]; exact h.only.size
/-- the term is appended: the row grown, the box set -/
theorem GSt.push {W0 wr w1 w2 : World} {p B : Nat} {vars c : Int} {us out : List Term'} {i j m cp : Nat} {A : Option Addr} {v2 u : Value} {E : List Int} {L : List (Value × Int)} (h : GSt W0 p B vars us out i m cp A wr) (hp : TParts wr B (.slice A m cp) out L)
    (hb : Below wr.heap.size wr w1) (hu : IntRow w1 wr.heap.size u E) (hown : w2.ownsRow B 67 2 v2 (m + 1) (cellsT L ++ [u, .int .i64 c])) (hg : w1.grownBy w2 (Value.slice A m cp).ownBlock) (hinv : GInv us j (out ++ [(E, c)])) :
    ∃ A2 c2, v2 = .slice A2 (m + 1) c2 ∧ Below B wr w2 ∧ GSt W0 p B vars us (out ++ [(E, c)]) j (m + 1) c2 A2 (w2.setCell ⟨p, 1, none⟩ (.slice A2 (m + 1) c2)) := by
  have hl := h.len
  subst hl
  obtain ⟨h1, h2⟩ := TParts.push (t := (E, c)) hp h.size hb hu hown hg
  obtain ⟨A2, c2, hv⟩ := h1.form
  have hv' : v2 = .slice A2 (out.length + 1) c2 := by rw [hv]; simp
  subst hv'
  refine ⟨A2, c2, rfl, h2, ?_, by simp, ?_, hinv, ?_, h.pB, h.B0⟩
  · have := (h.box.below h2 h.pB).set_ 1 (.slice A2 (out.length + 1) c2)
    simpa using this
  · refine h1.keep fun q hq _ => Below.heap_setCell _ _ _ _ (fun e => ?_)
    have := h.pB
    simp only at e
    omega
  · have hB := h.B0
    have h3 : Only (fun q => q = p) W0 w2 := h.only.chain (T := fun q => B ≤ q) ⟨h2.os, h2.tape, h2.output, h2.size, fun k _ hk => h2.block k (by omega)⟩ (fun q hq hb => absurd hb (by omega))
    exact h3.chain (T := fun q => q = p) ⟨rfl, rfl, rfl, by simp [World.setCell], fun q _ hq => Below.heap_setCell _ _ _ _ hq⟩ (fun q _ h => h)

def SrtT (us : List Term') : Prop := us.Pairwise (fun s t => ¬ cmpL t.1 s.1 < 0)
theorem RowT.below {w w' : World} {g off n : Nat} {ts : List Term'} (h : RowT w g off n ts) (hg : g < w.heap.size) (hb : Below w.heap.size w w') : RowT w' g off n ts := fun i t ht => by
  obtain ⟨Ai, ca, c0, c1, f0, f1, k1, k2, k3⟩ := h i t ht
  have hbk := hb.block g hg
  exact ⟨Ai, ca, (World.cell?_of_block (a := ⟨g, _, none⟩) hbk).trans c0, (World.cell?_of_block (a := ⟨g, _, none⟩) hbk).trans c1, (World.frozen?_of_block (a := ⟨g, _, none⟩) hbk).trans f0, (World.frozen?_of_block (a := ⟨g, _, none⟩) hbk).trans f1, k1.below hb, k2, k3⟩
/-- a row of terms, or none -/
def RowO (w : World) (B : Nat) (A : Option Addr) (n : Nat) (ts : List Term') : Prop := 0 < ts.length → ∃ g, A = some ⟨g, 0, none⟩ ∧ g < B ∧ RowT w g 0 n ts
def SortP (A : Option Addr) (n B : Nat) (ts : List Term') (w : World) (e : Ending) (w' : World) : Prop :=
  e = .returned (.tuple #[]) ∧ ∃ us, us.Perm ts ∧ SrtT us ∧ RowO w' B A n us ∧ Only (InB ts.length A) w w'
end Go.Proofs.Ytmcaphbngfdfiaa
