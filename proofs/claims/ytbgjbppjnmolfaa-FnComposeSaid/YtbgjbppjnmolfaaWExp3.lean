/- Walks: DerivativeOf, IntegralOf, LogSeries; what the laws do with lists. -/
import Derived.Test.YtbgjbppjnmolfaaWExp2
namespace Go.Proofs.Ytbgjbppjnmolfaa
open Go.RowKit Plain

theorem SerPost.op {n : Nat} {zs : List Int} {w w' : World} {e : Ending} (h : SerPost zs w e w') (hl : zs.length = n) (hz : IsS zs) (h0 : 0 < n) (h13 : n ≤ 13) :
    e = .returned (.slice (some ⟨w.heap.size, 0, none⟩) n n) ∧ Ser w' (some ⟨w.heap.size, 0, none⟩) n zs ∧ IntsM w' w.heap.size (some ⟨w.heap.size, 0, none⟩) zs ∧ Below w.heap.size w w' := by
  obtain ⟨he, hc, hb⟩ := h
  have hm := hc.intsM' (Nat.le_refl _)
  exact ⟨by rw [he, hl], ⟨hm.ints, hl, serB_of (by omega) (by omega) hz⟩, hm, hb⟩

theorem derivN (A : Option Addr) (cap n : Nat) (a : List Int) (w : World) (hA : Ser w A n a) :
    Calls Try.prog 21 #[.slice A n cap] w (OpPost n (dvL a) 0 w) := by
  obtain ⟨n0, n13⟩ := hA.bd
  have hl := hA.len
  subst hl
  obtain ⟨_, _, ia⟩ := serB_isS hA.ok
  have HV := Lib.hid hA.ok
  have HF := Lib.hid (derivative_any A cap a w hA.ints n0 (by omega) ia)
  go_enter Try.func21, Try.ntmps21
  go_wp2_with fail
  refine (validSeries_any A cap a w hA.ints (by omega)).mono ?_; rintro e w' ⟨rfl, rfl⟩
  rw [HV.out]
  go_wp2_with fail
  refine HF.out.mono ?_
  intro e w1 h
  obtain ⟨rfl, hs, hm, hb⟩ := h.op (dvL_length a) (isS_dv a) n0 n13
  have HS := Lib.hid hs
  have HM := Lib.hid hm
  have HB := Lib.hid hb
  clear hs hm hb h
  go_wp2
  go_ret2
  exact ⟨_, rfl, HS.out, HM.out, HB.out⟩

theorem integN (A : Option Addr) (cap n : Nat) (a : List Int) (w : World) (hA : Ser w A n a) :
    Calls Try.prog 28 #[.slice A n cap] w (OpPost n (itL a) 0 w) := by
  obtain ⟨n0, n13⟩ := hA.bd
  have hl := hA.len
  subst hl
  obtain ⟨_, _, ia⟩ := serB_isS hA.ok
  have HV := Lib.hid hA.ok
  have HF := Lib.hid (integral_any A cap a w hA.ints n0 (by omega) ia)
  go_enter Try.func28, Try.ntmps28
  go_wp2_with fail
  refine (validSeries_any A cap a w hA.ints (by omega)).mono ?_; rintro e w' ⟨rfl, rfl⟩
  rw [HV.out]
  go_wp2_with fail
  refine HF.out.mono ?_
  intro e w1 h
  obtain ⟨rfl, hs, hm, hb⟩ := h.op (itL_length a) (isS_it a) n0 n13
  have HS := Lib.hid hs
  have HM := Lib.hid hm
  have HB := Lib.hid hb
  clear hs hm hb h
  go_wp2
  go_ret2
  exact ⟨_, rfl, HS.out, HM.out, HB.out⟩

theorem expN (A : Option Addr) (cap n : Nat) (a : List Int) (w : World) (hA : Ser w A n a) (hz : cf a 0 = 0) :
    Calls Try.prog 25 #[.slice A n cap] w (OpPost n (expL a) 0 w) := by
  obtain ⟨n0, n13⟩ := hA.bd
  have hl := hA.len
  have h := expSeries_yes A cap a w hA.ints hA.ok hz
  rw [hl] at h
  exact h.mono fun _ _ h => OpPost.of h (by rw [expL_length, hl]) (isS_exp a) n0 n13

set_option maxHeartbeats 1000000 in
theorem logN (A : Option Addr) (cap n : Nat) (a : List Int) (w : World) (hA : Ser w A n a) (hz : cf a 0 = 1) :
    Calls Try.prog 27 #[.slice A n cap] w (OpPost n (logL a) 0 w) := by
  obtain ⟨n0, n13⟩ := hA.bd
  obtain ⟨bb, oo, rfl, hbl, g0⟩ := hA.first
  rw [hz] at g0
  have hl := hA.len
  subst hl
  obtain ⟨_, _, ia⟩ := serB_isS hA.ok
  have HV := Lib.hid hA.ok
  have HF := Lib.hid (derivative_any _ cap a w hA.ints n0 (by omega) ia)
  have HA := Lib.hid hA; clear hA hz
  have hm0 : (0 : Int) < (a.length : Int) := by omega
  go_enter Try.func27, Try.ntmps27
  go_wp2_with fail
  refine (validSeries_any _ cap a w HA.out.ints (by omega)).mono ?_; rintro e w' ⟨rfl, rfl⟩
  rw [HV.out]
  go_wp2_with fail
  refine HF.out.mono ?_
  intro e w1 h
  obtain ⟨rfl, hs, hm, hb⟩ := h.op (dvL_length a) (isS_dv a) n0 n13
  have HS := Lib.hid hs
  have HB := Lib.hid hb
  have HA1 := Lib.hid (HA.out.below hb)
  clear hs hm hb h
  have HQ := quotient_any (some ⟨w.heap.size, 0, none⟩) (some ⟨bb, oo, none⟩) a.length cap (dvL a) a w1 HS.out.ints HA1.out.ints (dvL_length a).symm (by rw [dvL_length]; omega) (by rw [dvL_length]; exact n0) (isS_dv a) ia
  rw [dvL_length] at HQ
  have HQ := Lib.hid HQ
  go_wp2_with fail
  refine HQ.out.mono ?_
  intro e w2 h
  obtain ⟨rfl, hs, hm, hb⟩ := h.op (n := a.length) (by rw [divL_length, dvL_length]) (isS_div _ _) n0 n13
  have HS2 := Lib.hid hs
  have HB2 := Lib.hid (bnext HB.out hb)
  clear hs hm hb h HQ
  have HI := integral_any (some ⟨w1.heap.size, 0, none⟩) a.length (divL (dvL a) a) w2 HS2.out.ints (by rw [divL_length, dvL_length]; exact n0) (by rw [divL_length, dvL_length]; omega) (isS_div _ _)
  rw [divL_length, dvL_length] at HI
  have HI := Lib.hid HI
  go_wp2_with fail
  refine HI.out.mono ?_
  intro e w3 h
  obtain ⟨rfl, hs, hm, hb⟩ := h.op (n := a.length) (by rw [itL_length, divL_length, dvL_length]) (isS_it _) n0 n13
  have HS3 : Hid (Ser w3 (some ⟨w2.heap.size, 0, none⟩) a.length (logL a)) := hs
  have HM3 : Hid (IntsM w3 w.heap.size (some ⟨w2.heap.size, 0, none⟩) (logL a)) := hm.mono (HB2.out.size)
  have HB3 := Lib.hid (bnext HB2.out hb)
  clear hs hm hb h HI
  go_wp2
  go_ret2
  exact ⟨_, rfl, HS3.out, HM3.out, HB3.out⟩

/-- a list with its first number set -/
def setF (a : List Int) (x : Int) : List Int := a.set 0 x
theorem Ints.news {w : World} {A : Addr} {l : List Int} (h : Ints w (some A) l) : ∀ j u, (l.map (Value.int .i64))[j]? = some u → w.cell? (A.add j) = some u := by
  intro j u hj
  have hjl : j < l.length := by have := (List.getElem?_eq_some_iff.1 hj).1; simpa using this
  obtain ⟨b, o, e, _, hc⟩ := h (by omega)
  obtain rfl : A = ⟨b, o, none⟩ := Option.some.inj e
  rw [addr_add, hc j _ (List.getElem?_eq_getElem hjl)]
  simp [hjl] at hj
  exact congrArg some hj

set_option maxHeartbeats 1000000 in
theorem begin2_any (A : Option Addr) (cap n : Nat) (a : List Int) (x : Int) (w : World) (hA : Ints w A a) (hl : a.length = n) (h0 : 0 < n) (hn : n ≤ 1000000) :
    Calls Try.prog 19 #[.slice A n cap, .int .i64 x] w fun e w' => ∃ A' cp, e = .returned (.slice A' n cp) ∧ IntsM w' w.heap.size A' (a.set 0 x) ∧ Below w.heap.size w w' := by
  subst hl
  obtain ⟨i0, hi, hz0, hz1, hz2⟩ := info_parts Try.infoI
  obtain ⟨b, o, e, hbl, _⟩ := hA h0
  subst e
  have HN : Hid (∀ j u, (a.map (Value.int .i64))[j]? = some u → (w.alloc (.cells #[] 2)).cell? ((Addr.mk b o none).add j) = some u) := (hA.below (by go_grown)).news
  have HR0 : Hid ((w.alloc (.cells #[] 2)).ownsRow w.heap.size 2 1 (.slice (some ⟨w.heap.size, 0, none⟩) 0 0) 0 []) := World.ownsRow_lit _ #[] 0 (Nat.le_refl _) (by unfold maxLen; omega) (by rfl)
  have HB0 : Hid (Below w.heap.size w (w.alloc (.cells #[] 2))) := by show Below _ _ _; go_grown
  have h1 : Hid (∀ u ∈ a.map (Value.int .i64), u.oneCell' = true) := by intro u hu; obtain ⟨y, _, rfl⟩ := List.mem_map.1 hu; rfl
  have hlm : Hid ((a.map (Value.int .i64)).length = a.length * 1) := by show _ = _; simp
  go_enter Try.func19, Try.ntmps19
  go_wp2_with (at_builtin; refine wpList_append_own _ rfl _ _ 30 rfl w.heap.size 2 i0 (.int .i64 0) 1 8 Try.underlying30 hi hz0 hz1 hz2 rfl (by decide) _ 0 _ rfl HR0.out ⟨b, o, none⟩ a.length cap (a.map (Value.int .i64)) rfl hlm.out HN.out h1.out ?c3 ?c4 HB0.out.size ?_)
  case c3 => unfold maxLen; omega
  case c4 => omega
  intro v1 w1 hown hg _
  have hr : IntRow w1 w.heap.size v1 a := by
    unfold IntRow
    simpa using hown
  obtain ⟨g, cp, hv, hgb, hgl⟩ := World.ownsRow.form hr h0
  subst hv
  have hr' : w1.ownsRow w.heap.size 2 1 (.slice (some ⟨g, 0, none⟩) a.length cp) a.length (a.map (Value.int .i64)) := hr
  have c0 : w1.cell? ⟨g, 0, none⟩ = some (.int .i64 (cf a 0)) := by
    rw [World.ownsRow.cellAt hr' 0 (by omega)]; simp [cf_some h0]
  have z0 : w1.frozen? ⟨g, 0, none⟩ = false := World.ownsRow.frozenAt hr' 0
  have HB1 : Hid (Below w.heap.size w w1) := HB0.out.grown hg HB0.out.size (fun q hq => (World.ownsRow.lt HR0.out q hq).1)
  have hst := (World.ownsRow.stored hr' 0 (.int .i64 x)).1
  have HR1 : Hid (IntRow (w1.setCell ⟨g, 0, none⟩ (.int .i64 x)) w.heap.size (.slice (some ⟨g, 0, none⟩) a.length cp) (a.set 0 x)) := by
    show World.ownsRow _ _ _ _ _ _ _
    rw [List.length_set, List.map_set]; exact hst
  have h0' : (0 : Int) < (a.length : Int) := by omega
  clear hown hg hr hr' hst
  go_wp2
  go_ret
  refine ⟨_, _, rfl, ?_, HB1.out.setCell hgb _⟩
  have h := HR1.out
  have e : (a.set 0 x).length = a.length := by simp
  rw [← e] at h
  exact h.intsM

end Go.Proofs.Ytbgjbppjnmolfaa
