/- Texts put together: WHigh, PSlope. -/
import Derived.Test.YtlnikpjcggfdmaaGreatKR

/- Walks: coefficients, factorials, HigherDerivative of the spec and of the program. -/
namespace Go.Proofs.YtlnikpjcggfdmaaGreat
open Go.RowKit Plain

/-- the product of the numbers from 1 to n -/
def facN : Nat → Int
  | 0 => 1
  | k + 1 => tm (facN k) ((k : Int) + 1)
theorem facN_bd (k : Nat) : 0 ≤ facN k ∧ facN k ≤ 1000002 := by
  cases k with
  | zero => simp [facN]
  | succ k => exact tm_bd _ _
theorem facN_one : facN 1 = 1 := rfl

/-- one coefficient -/
def coRes (R : Res (List (List Int))) (pk k : Nat) : Int × Int :=
  match R with
  | .err c => (0, c)
  | .ok zss _ => (cf (zss.getD pk []) k, 0)
theorem RowV.num_ {w : World} {bv n k : Nat} {v : Value} {zs : List Int} (h : RowV w bv n v zs) (hk : k < n) : ∃ b o cap, v = .slice (some ⟨b, o, none⟩) n cap ∧ b < w.heap.size ∧ w.cell? ⟨b, o + k, none⟩ = some (.int .i64 (cf zs k)) := by
  obtain ⟨A, cap, rfl, hl, hi, hs⟩ := h
  obtain ⟨b, o, rfl, hb, _, _, hc⟩ := hi (by omega)
  exact ⟨b, o, cap, rfl, hb, hc k _ (cf_some (by omega))⟩
/-- a number of new rows -/
theorem newAt {w : World} {B n cp pk k : Nat} {A : Option Addr} {zss : List (List Int)} (h : NewRows w B n (.slice A zss.length cp) zss) (h0 : 0 < B) (hp : pk < zss.length) (hk : k < n) :
    ∃ b o b' o' cap, A = some ⟨b, o, none⟩ ∧ w.cell? ⟨b, o + pk, none⟩ = some (.slice (some ⟨b', o', none⟩) n cap) ∧ w.cell? ⟨b', o' + k, none⟩ = some (.int .i64 (cf (zss.getD pk []) k)) ∧ 0 ≤ cf (zss.getD pk []) k ∧ cf (zss.getD pk []) k ≤ 1000002 := by
  obtain ⟨b, o, A', cap, e, _, _, hc, hz⟩ := (h.env (bv := 0) h0).sat hp
  obtain ⟨b3, o3, c3, hv3, hb3, hc3⟩ := RowV.num_ (k := k) (w := w) (bv := 0) (n := n) (v := .slice A' n cap) (zs := zss.getD pk []) ⟨A', cap, rfl, hz.len, hz.isAt, hz.isS⟩ hk
  obtain ⟨rfl, rfl⟩ : A' = some ⟨b3, o3, none⟩ ∧ cap = c3 := by simpa using hv3
  exact ⟨b, o, b3, o3, cap, e, hc, hc3, hz.isS k⟩

set_option maxRecDepth 100000 in
set_option maxHeartbeats 2000000 in
theorem coefI (P : List Fn) (m : Nat) (g : Fn) (q pk : Nat) (PA : Option Addr) (pcap : Nat) (A D : Option Addr) (cap dcap : Nat) (zs ds : List Int) (w : World) (hP : ProgIn w P PA pcap) (hin : ArgIn P m g zs) (hA : Ints w A zs) (hD : Ints w D ds) (hd : IsS ds) (hl : ds.length = zs.length) (hq : q ≤ 12) (hpk : pk < g.outs.len) :
    Calls Tryz.prog 74 #[prV PA P.length pcap, .int .i64 m, .int .i64 pk, .slice A zs.length cap, .slice D ds.length dcap, .int .i64 q] w fun e w' => Below w.heap.size w w' ∧ e = .returned (.tuple #[.int .i64 (coRes (tayR (q + 1) P g.outs zs ds) pk q).1, .int .i64 (coRes (tayR (q + 1) P g.outs zs ds) pk q).2]) ∧ 0 ≤ (coRes (tayR (q + 1) P g.outs zs ds) pk q).1 ∧ (coRes (tayR (q + 1) P g.outs zs ds) pk q).1 ≤ 1000002 := by
  have hg0 : Below w.heap.size w (w.alloc (.cells #[.slice PA P.length pcap] 32)) := by go_grown
  have HC := Lib.hid (alongI P m g q PA pcap A D cap dcap zs ds _ (hP.below hg0) hin (hA.below hg0) (hD.below hg0) hd hl hq)
  have hlen : ∀ zss t, tayR (q + 1) P g.outs zs ds = .ok zss t → zss.length = g.outs.len := fun zss t h => evalR_len h
  have herr : ∀ c, tayR (q + 1) P g.outs zs ds = .err c → c ≠ 0 := fun c h => evalR_err h
  have ho12 := hin.fn.o12
  clear hP hin hA hD hd hl hg0
  generalize tayR (q + 1) P g.outs zs ds = R at *
  cases R with
  | err c =>
    have hc := herr c rfl
    have hc1 : (c == 0) = false := by simpa using hc
    clear hlen herr
    simp only [coRes]
    go_enter Tryz.func74, Tryz.ntmps74
    go_wp2_with fail
    refine HC.out.mono ?_; rintro e w1 ⟨hb1, A', cp', rfl⟩
    have Q2 := Lib.hid (prBox (C := [Value.slice PA P.length pcap]) hb1).2
    clear hb1
    go_wp2
    go_ret2
    exact ⟨Q2.out, rfl, by omega, by omega⟩
  | ok zss t =>
    have hzl := hlen zss t rfl
    have hpz : pk < zss.length := by omega
    have hz12 : zss.length ≤ 12 := by omega
    clear hlen herr hzl hpk ho12
    simp only [coRes]
    go_enter Tryz.func74, Tryz.ntmps74
    go_wp2_with fail
    refine HC.out.mono ?_; rintro e w1 ⟨hb1, A', cp', rfl, hN⟩
    have Q2 := Lib.hid (prBox (C := [Value.slice PA P.length pcap]) hb1).2
    obtain ⟨b, o, b', o', ca, rfl, g1, g2, gb⟩ := newAt (k := q) hN (by simp) hpz (by omega)
    have hpzI : (pk : Int) < (zss.length : Int) := by omega
    have hqI : (q : Int) < ((q + 1 : Nat) : Int) := by omega
    have hqI2 : (q : Int) < (q : Int) + 1 := by omega
    have hqN : q < q + 1 := by omega
    have GB := Lib.hid gb
    obtain ⟨x, hx⟩ : ∃ x, x = cf (zss.getD pk []) q := ⟨_, rfl⟩
    rw [← hx] at g2
    have HX := Lib.hid hx
    clear hb1 hN gb hx
    go_wp2
    go_ret2
    exact ⟨Q2.out, by rw [← HX.out]; rfl, GB.out⟩

def hiRes (R : Res (List (List Int))) (pk k : Nat) : Int × Int :=
  match R with
  | .err c => (0, c)
  | .ok zss _ => (tm (cf (zss.getD pk []) k) (facN k), 0)
/-- what HigherDerivative answers -/
def highV (P : List Fn) (f pick : Int) (zs ds : List Int) (o : Int) : Int × Int :=
  if pickV P f pick zs ds = 0 then (if inR o 0 12 = true then (match P[f.toNat]? with
    | none => (0, 0)
    | some g => hiRes (tayR (o.toNat + 1) P g.outs zs ds) pick.toNat o.toNat) else (0, 2))
  else (0, pickV P f pick zs ds)
theorem hiRes_co (R : Res (List (List Int))) (pk k : Nat) : hiRes R pk k = (tm (coRes R pk k).1 (facN k), (coRes R pk k).2) := by
  cases R with
  | err c => show (0, c) = (tm 0 _, c); unfold tm; simp
  | ok zss t => rfl

end Go.Proofs.YtlnikpjcggfdmaaGreat

/- Slopes along a line, plainly: points, the first error. No program here. -/
namespace Go.Proofs.YtlnikpjcggfdmaaGreat
open Plain

/-- the point args + k dir -/
def pointL (zs ds : List Int) (k : Int) : List Int := mk zs.length fun i => (cf zs i + k * cf ds i) % 1000003
theorem pointL_length (zs ds : List Int) (k : Int) : (pointL zs ds k).length = zs.length := mk_length _ _
theorem isS_point (zs ds : List Int) (k : Int) : IsS (pointL zs ds k) := IsS.mk_ fun i => by omega
theorem point_zero {zs ds : List Int} (hz : IsS zs) : pointL zs ds 0 = zs := by
  apply list_ext
  · exact pointL_length _ _ _
  · intro i hi
    rw [pointL_length] at hi
    unfold pointL
    rw [cf_mk hi, Int.zero_mul, Int.add_zero]
    exact Int.emod_eq_of_lt (hz i).1 (by have := (hz i).2; omega)
theorem point_next {zs ds : List Int} (k : Int) : addL (pointL zs ds k) ds = pointL zs ds (k + 1) := by
  apply list_ext
  · rw [addL_length, pointL_length, pointL_length]
  · intro i hi
    rw [addL_length, pointL_length] at hi
    rw [cf_add (by rw [pointL_length]; exact hi)]
    unfold pointL
    rw [cf_mk hi, cf_mk hi]
    unfold pl
    rw [Int.add_mul, Int.one_mul]
    omega
/-- the code of the first error -/
def fstErr (F : Nat → Int) : Nat → Int
  | 0 => 0
  | k + 1 => if fstErr F k = 0 then F k else fstErr F k
theorem fstErr_at {F : Nat → Int} {k : Nat} (h0 : fstErr F k = 0) (hk : F k ≠ 0) : ∀ n, k < n → fstErr F n = F k := by
  intro n
  induction n with
  | zero => intro h; omega
  | succ n ih =>
    intro h
    unfold fstErr
    by_cases hn : k < n
    · rw [ih hn, if_neg hk]
    · obtain rfl : k = n := by omega
      rw [if_pos h0]
theorem fstErr_next {F : Nat → Int} {k : Nat} (h0 : fstErr F k = 0) (hk : F k = 0) : fstErr F (k + 1) = 0 := by
  unfold fstErr
  rw [if_pos h0, hk]

/-- one number of values -/
def numRes (R : Res (List (List Int))) (pk k : Nat) : Int :=
  match R with
  | .err _ => 0
  | .ok zss _ => cf (zss.getD pk []) k
def codeRes (R : Res (List (List Int))) : Int :=
  match R with
  | .err c => c
  | .ok _ _ => 0
/-- what SlopeAlong answers -/
def slopeV (P : List Fn) (f pick : Int) (zs ds : List Int) (n : Int) : List Int × Int :=
  if pickV P f pick zs ds = 0 then (if inR n 0 12 = true then (match P[f.toNat]? with
    | none => ([], 0)
    | some g =>
      if fstErr (fun k => codeRes (tayR 2 P g.outs (pointL zs ds k) ds)) n.toNat = 0
      then (mk n.toNat fun k => numRes (tayR 2 P g.outs (pointL zs ds k) ds) pick.toNat 1, 0)
      else ([], fstErr (fun k => codeRes (tayR 2 P g.outs (pointL zs ds k) ds)) n.toNat)) else ([], 2))
  else ([], pickV P f pick zs ds)
theorem slopeV_len (P : List Fn) (f pick : Int) (zs ds : List Int) (n : Int) : (slopeV P f pick zs ds n).1.length ≤ 4194304 := by
  unfold slopeV
  split
  · rename_i h
    obtain ⟨_, m, g, rfl, hin⟩ := argV_zero (lineV_zero (pickV_zero h).1).1
    split
    · rename_i hq
      have := inR_true.1 hq
      simp only [Int.toNat_natCast, hin.fn.fn]
      split
      · simp only [mk_length]; omega
      · simp
    · simp
  · simp

end Go.Proofs.YtlnikpjcggfdmaaGreat
