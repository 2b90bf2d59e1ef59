/- Walks of the program's chain: newChain, take, firstBad. -/
import Derived.Test.YtnbpcdcdfkfmiaaWRun
namespace Go.Proofs.Ytnbpcdcdfkfmiaa
open Go.RowKit Plain

/-- keys that are integers -/
def encI (k : Int) : Value := .int .i64 k

theorem eqI' (a b : Int) (w : World) : (Op.equal 2 (.int .i64 a) (.int .i64 b)).run Try.prog w = .ok (a == b) w := eqI 9999 a b w

theorem findNowI (k : Int) (m : List (Int × Value)) (i : Nat) : Instr.findNow (.int .i64) (encI k) (entsFrom encI i m) i = some (findE k m i) := by
  induction m generalizing i with
  | nil => rfl
  | cons p l ih =>
    simp only [entsFrom, Instr.findNow, findE, encI, Instr.sameNow, if_true]
    by_cases h : k = p.1
    · simp [h]
    · have hb : (k == p.1) = false := by simpa using h
      rw [hb, if_neg h]
      exact ih (i + 1)

theorem lawI : KLaw 2 encI where
  check em k w := by
    have h : ∀ d, (Instr.checkKey em (d + 1) 2 (encI k)).run Try.prog w = .ok () w := by
      intro d
      unfold Instr.checkKey
      simp [run_underlying Try.underlying2, encI]
    exact h 9999
  find k m w := by
    simp [Instr.findKey, run_underlying Try.underlying2, findNowI]
  stays k w := by
    have h' : Instr.sameBits 10000 (encI k) (encI k) = true := by
      show Instr.sameBits (9999 + 1) (encI k) (encI k) = true
      simp [encI, Instr.sameBits]
    simp [Instr.keyThatStays, h']

theorem zeroB (w : World) : (zeroValue 4).run Try.prog w = .ok (.bool false) w := by kernel_rfl

/-- the program's chain: its counts at B, its map at B + 1, itself at B + 2, its slots from B + 3 on -/
structure ChainAt (w : World) (B n : Nat) (v : Value) (c : Ch) : Prop where
  cells : Cells w (B + 2) 63 [vi c.left, vi c.state, v, .slice (some ⟨B, 0, none⟩) n n, vi 0, vi c.adv, vi c.stores, vi c.loads, vi 0, .map (some (B + 1))]
  over : Cells w B 2 (c.over.map vi)
  map : MapAt encI w (B + 1) c.used
  slots : SlotsAt w (B + 3) v c.slots
theorem ChainAt.next {w w' : World} {B n : Nat} {v : Value} {c : Ch} (h : ChainAt w B n v c) (hb : Below w.heap.size w w') : ChainAt w' B n v c :=
  ⟨h.cells.next hb, h.over.next hb, (hb.block _ h.map.lt).trans h.map, h.slots.next hb⟩

theorem ChainAt.push {wr w2 : World} {B n k g cap : Nat} {v : Value} (o : Obj) (h : ChainAt wr B n v (newC n k))
    (hown : w2.ownsRow (B + 3) 2 1 (.slice (some ⟨g, 0, none⟩) (k + 1) cap) (k + 1) (List.replicate k (vi (-1)) ++ [vi (-1)])) (hg : (wr.alloc o).grownBy w2 v.ownBlock) :
    Cells w2 (B + 2) 63 [vi n, vi 0, v, .slice (some ⟨B, 0, none⟩) n n, vi 0, vi 0, vi 0, vi 0, vi 0, .map (some (B + 1))] ∧
    ChainAt (w2.setCell ⟨B + 2, 2, none⟩ (.slice (some ⟨g, 0, none⟩) (k + 1) cap)) B n (.slice (some ⟨g, 0, none⟩) (k + 1) cap) (newC n (k + 1)) ∧
    Below B wr (w2.setCell ⟨B + 2, 2, none⟩ (.slice (some ⟨g, 0, none⟩) (k + 1) cap)) := by
  have hA : Below wr.heap.size wr (wr.alloc o) := (Below.refl _ _).alloc (Nat.le_refl _) _
  have hlow : ∀ q, v.ownBlock = some q → B + 3 ≤ q := fun q hq => (World.ownsRow.lt h.slots q hq).1
  have hne : ∀ b, b < B + 3 → some b ≠ v.ownBlock := fun b hb e => by have := hlow b e.symm; omega
  have h1 := h.next hA
  have hC2 : Cells w2 (B + 2) 63 [vi n, vi 0, v, .slice (some ⟨B, 0, none⟩) n n, vi 0, vi 0, vi 0, vi 0, vi 0, .map (some (B + 1))] :=
    (hg.block _ h1.cells.lt (hne _ (by omega))).trans h1.cells
  have hgB : B + 3 ≤ g := (World.ownsRow.lt hown g rfl).1
  have hBw : B ≤ wr.heap.size := Nat.le_of_lt h.over.lt
  refine ⟨hC2, ⟨hC2.set_ 2 _, ?_, ?_, ?_⟩, ?_⟩
  · exact Cells.far (p := ⟨B + 2, 2, none⟩) ((hg.block _ h1.over.lt (hne _ (by omega))).trans h1.over) (by show B ≠ B + 2; omega) _
  · exact (Below.heap_setCell _ _ _ _ (by show B + 1 ≠ B + 2; omega)).trans ((hg.block _ h1.map.lt (hne _ (by omega))).trans h1.map)
  · have h0 : SlotsAt w2 (B + 3) (.slice (some ⟨g, 0, none⟩) (k + 1) cap) (newC n (k + 1)).slots := by
      unfold SlotsAt
      simp only [newC, List.length_replicate, List.map_replicate]
      rw [show List.replicate (k + 1) (vi (-1)) = List.replicate k (vi (-1)) ++ [vi (-1)] from List.replicate_succ']
      exact hown
    exact h0.keep fun q hq => Below.heap_setCell _ _ _ _ (by
      have : q = g := by simpa [Value.ownBlock] using hq.symm
      simp; omega)
  · refine Below.setCell (Below.grown (hA.mono hBw) hg (by have := hA.size; omega) (fun q hq => by have := hlow q hq; omega)) (p := ⟨B + 2, 2, none⟩) (by show B ≤ B + 2; omega) _

def NewPost (n ns : Nat) (w : World) (e : Ending) (w' : World) : Prop :=
  e = .returned (.pointer (some ⟨w.heap.size + 2, 0, none⟩)) ∧ ∃ v, ChainAt w' w.heap.size n v (newC n ns) ∧ Below w.heap.size w w'

set_option maxRecDepth 100000 in
set_option maxHeartbeats 1000000 in
theorem newChain_any (n ns : Nat) (w : World) (hn : n ≤ 40) (hs : ns ≤ 8) :
    Calls Try.prog 62 #[.int .i64 n, .int .i64 ns] w (NewPost n ns w) := by
  obtain ⟨i0, hi, hz0, hz1, hz2⟩ := info_parts Try.infoI
  have hmm := @run_makeMap Try.prog
  have hmk := run_make_row' (P := Try.prog) 28 2 (.int .i64 0) 8 Try.underlying28 Try.infoI rfl .i64 .i64 n (by omega) (by omega)
  rw [madeCells_one] at hmk
  go_enter Try.func62, Try.ntmps62
  go_wp2
  have hb0 : Below w.heap.size w (((w.alloc (.cells (Array.replicate n (.int .i64 0)) 2)).alloc (.map #[] 0)).alloc (.cells #[vi n, vi 0, .slice none 0 0, .slice (some ⟨w.heap.size, 0, none⟩) n n, vi 0, vi 0, vi 0, vi 0, vi 0, .map (some (w.heap.size + 1))] 63)) := by go_grown
  have hC0 : ChainAt (((w.alloc (.cells (Array.replicate n (.int .i64 0)) 2)).alloc (.map #[] 0)).alloc (.cells #[vi n, vi 0, .slice none 0 0, .slice (some ⟨w.heap.size, 0, none⟩) n n, vi 0, vi 0, vi 0, vi 0, vi 0, .map (some (w.heap.size + 1))] 63)) w.heap.size n (.slice none 0 0) (newC n 0) := by
    have s1 : (w.alloc (.cells (Array.replicate n (.int .i64 0)) 2)).heap.size = w.heap.size + 1 := by simp
    have s2 : ((w.alloc (.cells (Array.replicate n (.int .i64 0)) 2)).alloc (.map #[] 0)).heap.size = w.heap.size + 2 := by simp
    have b1 : Below (w.alloc (.cells (Array.replicate n (.int .i64 0)) 2)).heap.size (w.alloc (.cells (Array.replicate n (.int .i64 0)) 2)) (((w.alloc (.cells (Array.replicate n (.int .i64 0)) 2)).alloc (.map #[] 0)).alloc (.cells #[vi n, vi 0, .slice none 0 0, .slice (some ⟨w.heap.size, 0, none⟩) n n, vi 0, vi 0, vi 0, vi 0, vi 0, .map (some (w.heap.size + 1))] 63)) := by go_grown
    have b2 : Below ((w.alloc (.cells (Array.replicate n (.int .i64 0)) 2)).alloc (.map #[] 0)).heap.size ((w.alloc (.cells (Array.replicate n (.int .i64 0)) 2)).alloc (.map #[] 0)) (((w.alloc (.cells (Array.replicate n (.int .i64 0)) 2)).alloc (.map #[] 0)).alloc (.cells #[vi n, vi 0, .slice none 0 0, .slice (some ⟨w.heap.size, 0, none⟩) n n, vi 0, vi 0, vi 0, vi 0, vi 0, .map (some (w.heap.size + 1))] 63)) := by go_grown
    refine ⟨?_, ?_, ?_, World.ownsRow_nil _ _ _ _⟩
    · have := Cells.new ((w.alloc (.cells (Array.replicate n (.int .i64 0)) 2)).alloc (.map #[] 0)) 63 [vi n, vi 0, .slice none 0 0, .slice (some ⟨w.heap.size, 0, none⟩) n n, vi 0, vi 0, vi 0, vi 0, vi 0, .map (some (w.heap.size + 1))]
      rw [s2] at this
      exact this
    · have h : Cells (w.alloc (.cells (Array.replicate n (.int .i64 0)) 2)) w.heap.size 2 ((newC n 0).over.map vi) := by
        have := Cells.new w 2 (List.replicate n (vi 0))
        simpa [newC] using this
      exact h.next b1
    · have h : ((w.alloc (.cells (Array.replicate n (.int .i64 0)) 2)).alloc (.map #[] 0)).heap[w.heap.size + 1]? = some (.map #[] 0) := by rw [← s1]; exact heap_alloc_new _ _
      exact (b2.block _ (by omega)).trans h
  generalize ((w.alloc (.cells (Array.replicate n (.int .i64 0)) 2)).alloc (.map #[] 0)).alloc (.cells #[vi n, vi 0, .slice none 0 0, .slice (some ⟨w.heap.size, 0, none⟩) n n, vi 0, vi 0, vi 0, vi 0, vi 0, .map (some (w.heap.size + 1))] 63) = W0 at hb0 hC0 ⊢
  have HC0 := Lib.hid hC0
  have HB0 := Lib.hid hb0
  clear hC0 hb0 hmk hmm
  go_loopw [13] (fun i wr => ∃ (k : Nat) (v : Value), k ≤ ns ∧ i = .int .i64 (k : Int) ∧ Hid (ChainAt wr w.heap.size n v (newC n k)) ∧ Hid (Below w.heap.size w wr)) (fun i _ => (ns - intOf i).toNat)
  case atStart => exact ⟨0, _, by omega, by go_num, HC0, HB0⟩
  case round =>
    obtain ⟨k, v, hk, rfl, HC, HB⟩ := hrel
    by_cases hlt : (k : Int) < (ns : Int)
    · have f2 : wr.cell? ⟨w.heap.size + 1 + 1, 2, none⟩ = some v := by
        have := HC.out.cells.cell 2
        exact this.trans rfl
      have HS2 : Hid (wr.ownsRow (w.heap.size + 3) 2 1 v k (List.replicate k (vi (-1)))) := by
        have h := HC.out.slots
        unfold SlotsAt at h
        show wr.ownsRow _ _ _ _ _ _
        simpa [newC] using h
      have hsz : w.heap.size + 2 < wr.heap.size := HC.out.cells.lt
      go_wp2_with (at_builtin; refine wpList_append_own _ rfl _ _ 28 rfl (w.heap.size + 3) 2 i0 (.int .i64 0) 1 8 Try.underlying28 hi hz0 hz1 hz2 rfl (by decide) _ k _ rfl (HS2.out.alloc _) ⟨wr.heap.size, 0, none⟩ 1 1 [vi (-1)] rfl rfl ?c1 ?c2 ?c3 ?c4 ?c5 ?_)
      case c1 => exact cell_one_new _ _ _
      case c2 => intro u hu; simp at hu; subst hu; rfl
      case c3 => unfold maxLen; omega
      case c4 => omega
      case c5 => simp; omega
      · intro v' w2 hown hg _
        obtain ⟨g, cap, rfl, _, _⟩ := World.ownsRow.form hown (by omega)
        obtain ⟨hC2, hC3, hB3⟩ := HC.out.push _ hown hg
        have f3 : w2.cell? ⟨w.heap.size + 1 + 1, 2, none⟩ = some v := (hC2.cell 2).trans rfl
        have f4 : w2.frozen? ⟨w.heap.size + 1 + 1, 2, none⟩ = false := hC2.frozen 2
        have HC3 := Lib.hid hC3
        have HB3 := Lib.hid (HB.out.trans hB3)
        clear hown hg hC2 hC3 hB3 HS2 HC HB hsz f2
        go_wp2
        go_roundw
        case rel => exact ⟨k + 1, _, by omega, by go_num, HC3, HB3⟩
        case measure => simp [intOf]; omega
    · obtain rfl : k = ns := by omega
      go_wp2
      go_ret
      exact ⟨rfl, v, HC.out, HB.out⟩

end Go.Proofs.Ytnbpcdcdfkfmiaa
