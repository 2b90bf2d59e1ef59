/- Walks of usageOf and RunSchedule of the program, RunSchedule of the reference, eqUsage. -/
import Derived.Test.YtkeamefifjmabaaWUsed2
namespace Go.Proofs.Ytkeamefifjmabaa
open Go.RowKit Plain

theorem run_len_map {P : Program} {t k e ty : TypeId} (ht : P.underlying t = some (.map k e)) {b : Nat} {es : Array MapEntry} {clock : Nat} {w : World} (hb : w.heap[b]? = some (.map es clock)) :
    (Builtin.len_ #[t] ty #[.map (some b)]).run P w = .ok (.int .i64 es.size) w := by
  simp [Builtin.len_, run_underlying ht, MapKept.run_getObj_map hb, goInt]

theorem res_set {w : World} {g : Nat} {t : TypeId} {x0 x1 x2 x3 x4 : Value} (a b c d e : Value) (h : Cells w g t [x0, x1, x2, x3, x4]) :
    Cells (((((w.setCell ⟨g, 0, none⟩ a).setCell ⟨g, 1, none⟩ b).setCell ⟨g, 2, none⟩ c).setCell ⟨g, 3, none⟩ d).setCell ⟨g, 4, none⟩ e) g t [a, b, c, d, e] :=
  ((((h.set_ 0 a).set_ 1 b).set_ 2 c).set_ 3 d).set_ 4 e
theorem res_below {w0 w : World} {g B : Nat} (a b c d e : Value) (h : Below B w0 w) (hg : B ≤ g) :
    Below B w0 (((((w.setCell ⟨g, 0, none⟩ a).setCell ⟨g, 1, none⟩ b).setCell ⟨g, 2, none⟩ c).setCell ⟨g, 3, none⟩ d).setCell ⟨g, 4, none⟩ e) :=
  ((((h.setCell (p := ⟨g, 0, none⟩) hg a).setCell (p := ⟨g, 1, none⟩) hg b).setCell (p := ⟨g, 2, none⟩) hg c).setCell (p := ⟨g, 3, none⟩) hg d).setCell (p := ⟨g, 4, none⟩) hg e

structure UseSt (w wr : World) (B n : Nat) (v : Value) (c : Ch) (cost sl : Int) : Prop where
  cells : Cells wr (B + 2) 90 [vi c.left, vi c.state, v, .slice (some ⟨B, 0, none⟩) n n, vi cost, vi c.adv, vi c.stores, vi c.loads, vi sl, .map (some (B + 1))]
  over : Cells wr B 2 (c.over.map vi)
  map : MapAt encI wr (B + 1) c.used
  res : Cells wr w.heap.size 47 [vi 0, vi 0, vi 0, vi 0, vi 0]
  below : Below w.heap.size w wr
  lo : w.heap.size < B
theorem UseSt.drew {w wr : World} {B n : Nat} {v : Value} {c : Ch} {cost sl : Int} (h : UseSt w wr B n v c cost sl) : UseSt w wr.drew B n v c cost sl :=
  ⟨h.cells.drewN 1, h.over.drewN 1, h.map, h.res.drewN 1, h.below.drew, h.lo⟩
theorem UseSt.set {w wr : World} {B n : Nat} {v : Value} {c : Ch} {cost sl : Int} (h : UseSt w wr B n v c cost sl) (i : Nat) (x : Int) {cost' sl' : Int}
    (hc : [vi c.left, vi c.state, v, .slice (some ⟨B, 0, none⟩) n n, vi cost', vi c.adv, vi c.stores, vi c.loads, vi sl', .map (some (B + 1))] = [vi c.left, vi c.state, v, .slice (some ⟨B, 0, none⟩) n n, vi cost, vi c.adv, vi c.stores, vi c.loads, vi sl, .map (some (B + 1))].set i (vi x)) :
    UseSt w (wr.setCell ⟨B + 2, i, none⟩ (vi x)) B n v c cost' sl' := by
  have h1 := h.lo
  exact ⟨by rw [hc]; exact h.cells.set_ i _, h.over.far (p := ⟨B + 2, i, none⟩) (by show B ≠ B + 2; omega) _, (Below.heap_setCell _ _ _ _ (by show B + 1 ≠ B + 2; omega)).trans h.map,
    h.res.far (p := ⟨B + 2, i, none⟩) (by show w.heap.size ≠ B + 2; omega) _, h.below.setCell (p := ⟨B + 2, i, none⟩) (by show w.heap.size ≤ B + 2; omega) _, h.lo⟩

/-- what a run returns -/
def usU (l : List (Int × Int)) (ws : List Int) (slots : Int) : Value :=
  if usC l ws slots = 0 then usg (dot (badC l (newC ws.length slots.toNat) 0).1.over ws) (badC l (newC ws.length slots.toNat) 0).1.adv (badC l (newC ws.length slots.toNat) 0).1.stores (badC l (newC ws.length slots.toNat) 0).1.loads (badC l (newC ws.length slots.toNat) 0).1.used.length
  else usg 0 0 0 0 0
def RunPost (u : Value) (code : Int) (w : World) (e : Ending) (w' : World) : Prop := e = .returned (.tuple #[u, vi code]) ∧ Below w.heap.size w w'
/-- .. for weights and slots that serve -/
def usU0 (l : List (Int × Int)) (ws : List Int) (s : Nat) : Value :=
  if badV l ws.length s < 0 then usg (dot (badC l (newC ws.length s) 0).1.over ws) (badC l (newC ws.length s) 0).1.adv (badC l (newC ws.length s) 0).1.stores (badC l (newC ws.length s) 0).1.loads (badC l (newC ws.length s) 0).1.used.length else usg 0 0 0 0 0
def usC0 (l : List (Int × Int)) (ws : List Int) (s : Nat) : Int := if badV l ws.length s < 0 then 0 else 4

set_option maxRecDepth 100000 in
set_option maxHeartbeats 2000000 in
theorem usageOf_any (A : Option Addr) (cap : Nat) (l : List (Int × Int)) (Aw : Option Addr) (cw : Nat) (ws : List Int) (s : Nat) (w : World) (hA : Acts w A l) (hW : Ints w Aw ws) (hs : isSched l = true) (hw : wts ws = true) (s8 : s ≤ 8) :
    Calls Try.prog 79 #[.slice A l.length cap, .slice Aw ws.length cw, .int .i64 s] w (RunPost (usU0 l ws s) (usC0 l ws s) w) := by
  obtain ⟨hw40, hwm⟩ := wts_mem hw
  have HWM := Lib.hid hwm; clear hwm
  have HS := Lib.hid hs; clear hs hw
  have HV : Hid (usU0 l ws s = (if badV l ws.length s < 0 then usg (dot (badC l (newC ws.length s) 0).1.over ws) (badC l (newC ws.length s) 0).1.adv (badC l (newC ws.length s) 0).1.stores (badC l (newC ws.length s) 0).1.loads (badC l (newC ws.length s) 0).1.used.length else usg 0 0 0 0 0) ∧ usC0 l ws s = if badV l ws.length s < 0 then 0 else 4) := ⟨rfl, rfl⟩
  go_enter Try.func79, Try.ntmps79
  go_wp2_with fail
  have hb0 : Below w.heap.size w (w.alloc (.cells #[vi 0, vi 0, vi 0, vi 0, vi 0] 47)) := by go_grown
  have hc0 : Cells (w.alloc (.cells #[vi 0, vi 0, vi 0, vi 0, vi 0] 47)) w.heap.size 47 [vi 0, vi 0, vi 0, vi 0, vi 0] := Cells.new w _ [vi 0, vi 0, vi 0, vi 0, vi 0]
  have hs0 : w.heap.size < (w.alloc (.cells #[vi 0, vi 0, vi 0, vi 0, vi 0] 47)).heap.size := by simp
  refine (firstBad_any A cap l ws.length s _ (hA.below hb0) HS.out hw40 s8).mono ?_
  rintro e w2 ⟨rfl, hb2, v, hC, j, hj4, hI⟩
  generalize w.alloc (.cells #[vi 0, vi 0, vi 0, vi 0, vi 0] 47) = W0 at *
  have hst : UseSt w w2 W0.heap.size ws.length v (badC l (newC ws.length s) 0).1 0 0 := ⟨hC.cells, hC.over, hC.map, hc0.next hb2, bnext hb0 hb2, hs0⟩
  have HI := Lib.hid hI
  have HST := Lib.hid hst
  clear hC hI hst hb0 hc0 hb2 hs0
  generalize W0.heap.size = B at *
  generalize badV l ws.length s = qq at *
  generalize (badC l (newC ws.length s) 0).1 = c at *
  by_cases hq : qq < 0
  · have e3 : w2.cell? ⟨B + 2, 3, none⟩ = some (.slice (some ⟨B, 0, none⟩) ws.length ws.length) := by rw [HST.out.cells.cell]; rfl
    go_wp2_with fail
    clear e3
    go_loopw [28] (fun i wr => ∃ k : Nat, k ≤ ws.length ∧ i = .int .i64 (k : Int) ∧ Hid (UseSt w wr B ws.length v c (dot (c.over.take k) (ws.take k)) 0)) (fun i _ => (ws.length - intOf i).toNat)
    case atStart => exact ⟨0, by omega, by go_num, by show UseSt _ _ _ _ _ _ _ _; simpa [dot] using HST.out⟩
    case round =>
      obtain ⟨k, hk, rfl, HSr⟩ := hrel
      by_cases hlt : k < ws.length
      · have hol := HI.out.ol
        have hx := List.getElem?_eq_getElem (l := c.over) (i := k) (by omega)
        have hob := HI.out.ob k _ hx
        generalize c.over[k] = x at hx hob
        have hwx := List.getElem?_eq_getElem (l := ws) (i := k) hlt
        have hum := HWM.out ws[k] (List.getElem_mem _)
        generalize ws[k] = u at hwx hum
        have hm := mul_bd (x := x) (y := u) (by omega) (by omega) hum.1 hum.2
        have hdb := dot_bd (xs := c.over.take k) (ys := ws.take k) (fun x hx => by
          obtain ⟨i, hi, rfl⟩ := List.getElem_of_mem (List.mem_of_mem_take hx)
          have := HI.out.ob i _ (List.getElem?_eq_getElem hi); omega) (fun y hy => HWM.out y (List.mem_of_mem_take hy))
        have hlen : (c.over.take k).length ≤ 40 := by rw [List.length_take]; omega
        have hdd := dot_take hx hwx
        obtain ⟨D, hD⟩ : ∃ D, dot (c.over.take k) (ws.take k) = D := ⟨_, rfl⟩
        rw [hD] at HSr hdb hdd
        have e3 : wr.cell? ⟨B, k, none⟩ = some (.int .i64 x) := by rw [HSr.out.over.cell]; simp [hx]
        have e4 : wr.cell? ⟨B + 2, 4, none⟩ = some (.int .i64 D) := by rw [HSr.out.cells.cell]; rfl
        have z4 : wr.frozen? ⟨B + 2, 4, none⟩ = false := HSr.out.cells.frozen _
        obtain ⟨bw, ow, uu, rfl, hux, hcw⟩ := (hW.below HSr.out.below).at_ hlt
        rw [hwx] at hux
        obtain rfl : u = uu := by simpa using hux
        have hst := HSr.out.drew.set 4 (D + x * u) (cost' := dot (c.over.take (k + 1)) (ws.take (k + 1))) (sl' := 0) (by rw [hdd]; rfl)
        have HST2 := Lib.hid hst
        have hw1 : IntKind.i64.wrap (x * u) = x * u := IntWalk.i64_in _ (by omega)
        have hw2 : IntKind.i64.wrap (D + x * u) = D + x * u := IntWalk.i64_in _ (by omega)
        clear hst hx hwx hux hdd hD hdb hm hum hob hol hlen
        go_wp2
        go_region
        go_wp2
        go_roundw
        case rel => exact ⟨k + 1, by omega, by go_num, HST2.out⟩
        case measure => simp [intOf]; omega
      · obtain rfl : k = ws.length := by omega
        have hdd : dot (c.over.take ws.length) (ws.take ws.length) = dot c.over ws := by rw [List.take_of_length_le (Nat.le_of_eq HI.out.ol), List.take_length]
        rw [hdd] at HSr
        obtain ⟨D, hD⟩ : ∃ D, dot c.over ws = D := ⟨_, rfl⟩
        rw [hD] at HSr HV
        clear hdd hD
        have e5 : wr.cell? ⟨B + 2, 9, none⟩ = some (.map (some (B + 1))) := by rw [HSr.out.cells.cell]; rfl
        have hm := HSr.out.map
        unfold MapAt at hm
        have hml : (entsFrom encI 0 c.used).toArray.size = c.used.length := by simp [entsFrom_length]
        have e8 : wr.cell? ⟨B + 2, 8, none⟩ = some (vi 0) := by rw [HSr.out.cells.cell]; rfl
        have z8 : wr.frozen? ⟨B + 2, 8, none⟩ = false := HSr.out.cells.frozen _
        have hst := HSr.out.set 8 (c.used.length : Int) (cost' := D) (sl' := (c.used.length : Int)) rfl
        have HST2 := Lib.hid hst
        clear hst
        have hn0 := HSr.out.lo
        have c4 : wr.cell? ⟨B + 2, 4, none⟩ = some (vi D) := by rw [HSr.out.cells.cell]; rfl
        have c5 : wr.cell? ⟨B + 2, 5, none⟩ = some (vi c.adv) := by rw [HSr.out.cells.cell]; rfl
        have c6 : wr.cell? ⟨B + 2, 6, none⟩ = some (vi c.stores) := by rw [HSr.out.cells.cell]; rfl
        have c7 : wr.cell? ⟨B + 2, 7, none⟩ = some (vi c.loads) := by rw [HSr.out.cells.cell]; rfl
        have hres0 := HSr.out.res
        have r0 : wr.cell? ⟨w.heap.size, 0, none⟩ = some (vi 0) := by rw [hres0.cell]; rfl
        have q0 : wr.frozen? ⟨w.heap.size, 0, none⟩ = false := hres0.frozen _
        have r1 : wr.cell? ⟨w.heap.size, 1, none⟩ = some (vi 0) := by rw [hres0.cell]; rfl
        have q1 : wr.frozen? ⟨w.heap.size, 1, none⟩ = false := hres0.frozen _
        have r2 : wr.cell? ⟨w.heap.size, 2, none⟩ = some (vi 0) := by rw [hres0.cell]; rfl
        have q2 : wr.frozen? ⟨w.heap.size, 2, none⟩ = false := hres0.frozen _
        have r3 : wr.cell? ⟨w.heap.size, 3, none⟩ = some (vi 0) := by rw [hres0.cell]; rfl
        have q3 : wr.frozen? ⟨w.heap.size, 3, none⟩ = false := hres0.frozen _
        have r4 : wr.cell? ⟨w.heap.size, 4, none⟩ = some (vi 0) := by rw [hres0.cell]; rfl
        have q4 : wr.frozen? ⟨w.heap.size, 4, none⟩ = false := hres0.frozen _
        clear hres0
        have hlen : ∀ ty, (Builtin.len_ #[88] ty #[.map (some (B + 1))]).run Try.prog wr = .ok (.int .i64 (c.used.length : Int)) wr := fun ty => by
          rw [← hml]; exact run_len_map Try.underlying88 hm
        clear hm hml
        go_wp2
        have hres := HST2.out.res
        have hbw := HST2.out.below
        have hK := res_set (vi D) (vi c.adv) (vi c.stores) (vi c.loads) (vi (c.used.length : Int)) hres
        have hb := res_below (vi D) (vi c.adv) (vi c.stores) (vi c.loads) (vi (c.used.length : Int)) hbw (Nat.le_refl _)
        generalize (((((wr.setCell ⟨B + 2, 8, none⟩ (vi (c.used.length : Int))).setCell ⟨w.heap.size, 0, none⟩ (vi D)).setCell ⟨w.heap.size, 1, none⟩ (vi c.adv)).setCell ⟨w.heap.size, 2, none⟩ (vi c.stores)).setCell ⟨w.heap.size, 3, none⟩ (vi c.loads)).setCell ⟨w.heap.size, 4, none⟩ (vi (c.used.length : Int)) = W5 at hK hb ⊢
        have g0 := (hK.cell 0).trans (rfl : _ = some (vi D))
        have g1 := (hK.cell 1).trans (rfl : _ = some (vi c.adv))
        have g2 := (hK.cell 2).trans (rfl : _ = some (vi c.stores))
        have g3 := (hK.cell 3).trans (rfl : _ = some (vi c.loads))
        have g4 := (hK.cell 4).trans (rfl : _ = some (vi (c.used.length : Int)))
        try simp only [Exit.inBlock, Exit.then]
        refine bodyPost_ret (v := .tuple #[.agg #[vi D, vi c.adv, vi c.stores, vi c.loads, vi (c.used.length : Int)], vi (0)]) (by simp [results, Try.results79, go_sem, g0, g1, g2, g3, g4]) rfl ⟨?_, hb⟩
        rw [HV.out.1, HV.out.2, if_pos hq, if_pos hq]; rfl
  · have hres := HST.out.res
    have hbw := HST.out.below
    have r0 : w2.cell? ⟨w.heap.size, 0, none⟩ = some (vi 0) := by rw [hres.cell]; rfl
    have q0 : w2.frozen? ⟨w.heap.size, 0, none⟩ = false := hres.frozen _
    have r1 : w2.cell? ⟨w.heap.size, 1, none⟩ = some (vi 0) := by rw [hres.cell]; rfl
    have q1 : w2.frozen? ⟨w.heap.size, 1, none⟩ = false := hres.frozen _
    have r2 : w2.cell? ⟨w.heap.size, 2, none⟩ = some (vi 0) := by rw [hres.cell]; rfl
    have q2 : w2.frozen? ⟨w.heap.size, 2, none⟩ = false := hres.frozen _
    have r3 : w2.cell? ⟨w.heap.size, 3, none⟩ = some (vi 0) := by rw [hres.cell]; rfl
    have q3 : w2.frozen? ⟨w.heap.size, 3, none⟩ = false := hres.frozen _
    have r4 : w2.cell? ⟨w.heap.size, 4, none⟩ = some (vi 0) := by rw [hres.cell]; rfl
    have q4 : w2.frozen? ⟨w.heap.size, 4, none⟩ = false := hres.frozen _
    have HRES := Lib.hid hres; clear hres
    go_wp2
    have hres := HRES.out

    have hK := res_set (vi 0) (vi 0) (vi 0) (vi 0) (vi 0) hres
    have hb := res_below (vi 0) (vi 0) (vi 0) (vi 0) (vi 0) hbw (Nat.le_refl _)
    generalize ((((w2.setCell ⟨w.heap.size, 0, none⟩ (vi 0)).setCell ⟨w.heap.size, 1, none⟩ (vi 0)).setCell ⟨w.heap.size, 2, none⟩ (vi 0)).setCell ⟨w.heap.size, 3, none⟩ (vi 0)).setCell ⟨w.heap.size, 4, none⟩ (vi 0) = W5 at hK hb ⊢
    have g0 := (hK.cell 0).trans (rfl : _ = some (vi 0))
    have g1 := (hK.cell 1).trans (rfl : _ = some (vi 0))
    have g2 := (hK.cell 2).trans (rfl : _ = some (vi 0))
    have g3 := (hK.cell 3).trans (rfl : _ = some (vi 0))
    have g4 := (hK.cell 4).trans (rfl : _ = some (vi 0))
    try simp only [Exit.inBlock, Exit.then]
    refine bodyPost_ret (v := .tuple #[.agg #[vi 0, vi 0, vi 0, vi 0, vi 0], vi (4)]) (by simp [results, Try.results79, go_sem, g0, g1, g2, g3, g4]) rfl ⟨?_, hb⟩
    rw [HV.out.1, HV.out.2, if_neg (by omega), if_neg (by omega)]; rfl

end Go.Proofs.Ytkeamefifjmabaa
