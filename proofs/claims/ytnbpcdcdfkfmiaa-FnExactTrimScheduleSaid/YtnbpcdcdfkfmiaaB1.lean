/- Opening an argument that is a list of actions. -/
import Derived.Test.YtnbpcdcdfkfmiaaWActs
import Derived.Deep.Slices
import Derived.Deep.Fields
namespace Go.Proofs.Ytnbpcdcdfkfmiaa
open Go.RowKit Go.Deep

theorem Try.cellsLA : Try.prog.cellsOf 70 = 2 := by kernel_rfl
theorem Try.cells1 : Try.prog.cellsOf 2 = 1 := by kernel_rfl

set_option maxRecDepth 100000 in
theorem open_acts {H : Type} {enc : TypeId × Value → H} {w : World} {fuel : Nat} {cs : List Value} {x : DataW H × List MemPlace}
    (h : DataW.trod enc Try.prog w 0 (fun _ => true) true fuel 35 cs = some x) :
    cs = [.slice none 0 0] ∨ ∃ (a : Addr) (len cap : Nat) (l : List (Int × Int)), cs = [.slice (some a) len cap] ∧ cap ≤ maxLen ∧ len ≤ cap ∧ l.length = len ∧ Acts w (some a) l := by
  rcases Go.Deep.open_slice Try.underlying35 h with ⟨h0, _⟩ | ⟨a, len, cap, m, n, D, Pl, hcs, _, hl, hm, hmm, _, hi⟩
  · exact .inl h0
  · refine .inr ⟨a, len, cap, ?_⟩
    have each : ∀ i, i < m → ∃ z : Int × Int, w.cell? (a.add (i * 2)) = some (.int .i64 z.1) ∧ w.cell? (a.add (i * 2 + 1)) = some (.int .i64 z.2) := by
      intro i him
      obtain ⟨cs', hc, ht⟩ := hi i him
      rw [Try.cellsLA] at hc
      obtain ⟨ys, n', _, _, _, hlen, hf⟩ := DataW.trod_struct Try.underlying70 ht
      obtain ⟨_, hcl, hat⟩ := World.cells?_some hc
      match cs', hcl, ys, hlen with
      | [c0, c1], _, [y0, y1], _ =>
        have h0 : DataW.trod enc Try.prog w 0 (fun _ => true) true n' 2 (([c0, c1].drop 0).take (Try.prog.cellsOf 2)) = some y0 := hf 0 _ rfl
        have h1 : DataW.trod enc Try.prog w 0 (fun _ => true) true n' 2 (([c0, c1].drop 1).take (Try.prog.cellsOf 2)) = some y1 := hf 1 _ rfl
        rw [Try.cells1] at h0 h1
        obtain ⟨n0, e0, _⟩ := DataW.trod_int Try.underlying2 (x := y0) h0
        obtain ⟨n1, e1, _⟩ := DataW.trod_int Try.underlying2 (x := y1) h1
        simp at e0 e1
        subst e0 e1
        have a0 := hat 0 (by omega)
        have a1 := hat 1 (by omega)
        rw [Go.Deep.add_add] at a0 a1
        exact ⟨(n0, n1), by simpa using a0, by simpa using a1⟩
    have hlm : len ≤ m := by rw [hmm]; split <;> omega
    obtain ⟨l, hll, hq⟩ := list_of len _ fun i hi => each i (by omega)
    refine ⟨l, hcs, hm, hl, hll, fun hn => ?_⟩
    have hm0 : 0 < m := by omega
    obtain ⟨b, off, spot⟩ := a
    obtain ⟨z, h1, _⟩ := each 0 hm0
    have hspot : spot = none := by simpa [Addr.add] using World.cell?_spot h1
    subst hspot
    have hb : b < w.heap.size := by
      rw [addr_add] at h1
      exact World.block_lt_of_cell? _ _ h1
    refine ⟨b, off, rfl, hb, fun j x hx => ?_⟩
    have h1 := hq j x hx
    rw [addr_add, addr_add] at h1
    exact h1

end Go.Proofs.Ytnbpcdcdfkfmiaa
