/- Texts put together: PJac, WGrow, WJac, WJacS, WJac2, WGrad. -/
import Derived.Test.YtlnikpjcggfdmaaGreatKT
import Derived.Test.YtlnikpjcggfdmaaGreatKA
import Derived.Test.YtlnikpjcggfdmaaGreatKR
import Derived.Deep.RegionHeld3
import Derived.Test.YtlnikpjcggfdmaaGreatKB

/- Jacobians and second derivatives, plainly. No program here. -/
namespace Go.Proofs.YtlnikpjcggfdmaaGreat
open Plain

/-- two evaluations of all outputs under related operations -/
theorem evalR_rel {n n' : Nat} {R : List Int → List Int → Prop} (H : OpsR (ops n) (ops n') R) (P : List Fn) (outs : Es) {a b : List (List Int)} (h : EnvR R a b) : ResR (EnvR R) (evalR n P outs a) (evalR n' P outs b) :=
  evAll_rel (R := R) H.nil (fun x s => ev_rel H P 3001 x a b s h) outs 0
theorem lineL_getD {n : Nat} {zs ds : List Int} {k j : Nat} : (lineL n zs ds k).getD j [] = if j < k then lineRow n (cf zs j) (cf ds j) else [] := by
  unfold lineL
  by_cases h : j < k
  · simp [List.getD, h]
  · simp [List.getD, h]
theorem lineRow_take {n : Nat} {x d : Int} (hn : 1 ≤ n) : (lineRow n x d).take 1 = [x] := by
  unfold lineRow
  rw [mk_take1, Nat.min_eq_left hn]
  rfl
theorem ones_getD {zs : List Int} {j : Nat} : (ones zs).getD j [] = if j < zs.length then [cf zs j] else [] := by
  unfold ones
  by_cases h : j < zs.length
  · simp [List.getD, h, cf]
  · simp [List.getD, h]
/-- the code of an evaluation does not hang on the direction -/
theorem tay_first {n : Nat} (hn : 1 ≤ n) (P : List Fn) (outs : Es) (zs ds : List Int) : ResR (EnvR fun a b => b = a.take 1) (tayR n P outs zs ds) (evalR 1 P outs (ones zs)) := by
  refine evalR_rel (ops_first hn) P outs ⟨by rw [lineL_length]; simp [ones], fun j => ?_⟩
  rw [lineL_getD, ones_getD]
  by_cases h : j < zs.length
  · rw [if_pos h, if_pos h]
    exact (lineRow_take hn).symm
  · rw [if_neg h, if_neg h]; rfl
theorem tay_err {n : Nat} (hn : 1 ≤ n) {P : List Fn} {outs : Es} {zs : List Int} {c : Int} (h : evalR 1 P outs (ones zs) = .err c) (ds : List Int) : tayR n P outs zs ds = .err c := by
  have := tay_first hn P outs zs ds
  rw [h] at this
  cases ht : tayR n P outs zs ds with
  | err c' => rw [ht] at this; exact congrArg _ this
  | ok _ _ => rw [ht] at this; exact this.elim
theorem tay_ok {n : Nat} (hn : 1 ≤ n) {P : List Fn} {outs : Es} {zs : List Int} {vs : List (List Int)} {t : Nat} (h : evalR 1 P outs (ones zs) = .ok vs t) (ds : List Int) : ∃ zss, tayR n P outs zs ds = .ok zss t := by
  have := tay_first hn P outs zs ds
  rw [h] at this
  cases ht : tayR n P outs zs ds with
  | err c' => rw [ht] at this; exact this.elim
  | ok zss t' =>
    rw [ht] at this
    obtain ⟨rfl, _⟩ := this
    exact ⟨zss, rfl⟩
theorem tay_code {n : Nat} (hn : 1 ≤ n) {P : List Fn} {outs : Es} {zs : List Int} (ds : List Int) : codeRes (tayR n P outs zs ds) = codeRes (evalR 1 P outs (ones zs)) := by
  cases h : evalR 1 P outs (ones zs) with
  | err c => rw [tay_err hn h]
  | ok vs t => obtain ⟨zss, e⟩ := tay_ok hn h ds; rw [e]; rfl

/-- one derivative -/
def jacE (P : List Fn) (g : Fn) (zs : List Int) (k j : Nat) : Int := numRes (tayR 2 P g.outs zs (unitL zs.length [(j : Int)])) k 1
def jacRow (P : List Fn) (g : Fn) (zs : List Int) (k : Nat) : List Int := mk zs.length (jacE P g zs k)
def jacRows (P : List Fn) (g : Fn) (zs : List Int) : List (List Int) := (List.range g.outs.len).map (jacRow P g zs)
def jacRes (P : List Fn) (g : Fn) (zs : List Int) : List (List Int) × Int :=
  match evalR 1 P g.outs (ones zs) with
  | .err c => ([], c)
  | .ok _ _ => (jacRows P g zs, 0)
/-- what JacobianOf answers -/
def jacV (P : List Fn) (f : Int) (zs : List Int) : List (List Int) × Int :=
  if argV P f zs = 0 then (match P[f.toNat]? with
    | none => ([], 0)
    | some g => jacRes P g zs)
  else ([], argV P f zs)
def gradRes (P : List Fn) (g : Fn) (zs : List Int) (pk : Nat) : List Int × Int :=
  match evalR 1 P g.outs (ones zs) with
  | .err c => ([], c)
  | .ok _ _ => (jacRow P g zs pk, 0)
/-- what GradientOf answers -/
def gradV (P : List Fn) (f pick : Int) (zs : List Int) : List Int × Int :=
  if pickV P f pick zs zs = 0 then (match P[f.toNat]? with
    | none => ([], 0)
    | some g => gradRes P g zs pick.toNat)
  else ([], pickV P f pick zs zs)
theorem jacRow_length (P : List Fn) (g : Fn) (zs : List Int) (k : Nat) : (jacRow P g zs k).length = zs.length := mk_length _ _
theorem jacRows_length (P : List Fn) (g : Fn) (zs : List Int) : (jacRows P g zs).length = g.outs.len := by simp [jacRows]
theorem ArgIn.z12 {P : List Fn} {m : Nat} {g : Fn} {zs : List Int} (h : ArgIn P m g zs) : zs.length ≤ 12 := by have h1 := h.len; have h2 := h.fn.p12; omega
theorem jacRows_tot {P : List Fn} {m : Nat} {g : Fn} {zs : List Int} (h : ArgIn P m g zs) : tot (jacRows P g zs) ≤ 144 := by
  have h1 : tot (jacRows P g zs) ≤ (jacRows P g zs).length * 12 := tot_le fun z hz => by
    unfold jacRows at hz
    obtain ⟨k, _, rfl⟩ := List.mem_map.1 hz
    rw [jacRow_length]
    exact h.z12
  rw [jacRows_length] at h1
  have := h.fn.o12
  have : g.outs.len * 12 ≤ 12 * 12 := Nat.mul_le_mul_right _ this
  omega
theorem jacV_of (P : List Fn) (f : Int) (zs : List Int) : (jacV P f zs).1.length ≤ 12 ∧ tot (jacV P f zs).1 ≤ 144 := by
  unfold jacV
  split
  · rename_i h
    obtain ⟨_, m, g, rfl, hin⟩ := argV_zero h
    simp only [Int.toNat_natCast, hin.fn.fn]
    unfold jacRes
    split
    · simp [tot]
    · exact ⟨by rw [jacRows_length]; exact hin.fn.o12, jacRows_tot hin⟩
  · simp [tot]
theorem jacV_len (P : List Fn) (f : Int) (zs : List Int) : (jacV P f zs).1.length ≤ 4194304 := by have := (jacV_of P f zs).1; omega
theorem jacV_tot (P : List Fn) (f : Int) (zs : List Int) : tot (jacV P f zs).1 ≤ 4194304 := by have := (jacV_of P f zs).2; omega
theorem gradV_len (P : List Fn) (f pick : Int) (zs : List Int) : (gradV P f pick zs).1.length ≤ 4194304 := by
  unfold gradV
  split
  · rename_i h
    obtain ⟨_, m, g, rfl, hin⟩ := argV_zero (lineV_zero (pickV_zero h).1).1
    simp only [Int.toNat_natCast, hin.fn.fn]
    unfold gradRes
    split
    · simp
    · rw [jacRow_length]; have := hin.z12; omega
  · simp

/-- a second coefficient -/
def co2 (P : List Fn) (g : Fn) (zs : List Int) (pk : Nat) (ps : List Int) : Int := (coRes (tayR 3 P g.outs zs (unitL zs.length ps)) pk 2).1
theorem unitL_nil (n : Nat) (i : Nat) : cf (unitL n []) i = 0 := by
  unfold unitL
  by_cases h : i < n
  · rw [cf_mk h]; rfl
  · rw [cf_big (by rw [mk_length]; omega)]
theorem co2_nil (P : List Fn) (g : Fn) (zs : List Int) (pk : Nat) : co2 P g zs pk [] = 0 := by
  unfold co2
  have h : ResR (EnvR fun a b => a = b ∧ Const a) (tayR 3 P g.outs zs (unitL zs.length [])) (tayR 3 P g.outs zs (unitL zs.length [])) := evalR_rel (ops_const 3) P g.outs ⟨rfl, fun j => ⟨rfl, by
    rw [lineL_getD]
    split
    · unfold lineRow
      refine const_mk fun k hk _ => ?_
      rw [if_neg (by omega), unitL_nil]
      split <;> rfl
    · exact fun k _ => rfl⟩⟩
  cases ht : tayR 3 P g.outs zs (unitL zs.length []) with
  | err c => rfl
  | ok zss t =>
    rw [ht] at h
    exact (h.2.2 pk).2 2 (by omega)
theorem cf_unit {n : Nat} {ps : List Int} {i : Nat} (h : i < n) : cf (unitL n ps) i = cntN ps i := by unfold unitL; rw [cf_mk h]
theorem cntN_one (j i : Nat) : cntN [(j : Int)] i = if i = j then 1 else 0 := by
  have h := cntN_snoc [] j i
  simpa [cntN] using h
theorem cntN_two (j k i : Nat) : cntN [(j : Int), (k : Int)] i = (if i = j then 1 else 0) + (if i = k then 1 else 0) := by
  have h := cntN_snoc [(j : Int)] k i
  rw [List.singleton_append, cntN_one] at h
  rw [h]
  split <;> simp
theorem co2_twice (P : List Fn) (g : Fn) (zs : List Int) (pk i : Nat) : rs (co2 P g zs pk [(i : Int), (i : Int)]) = rs (4 * co2 P g zs pk [(i : Int)]) := by
  unfold co2
  have h : ResR (EnvR (Stretch 2)) (tayR 3 P g.outs zs (unitL zs.length [(i : Int)])) (tayR 3 P g.outs zs (unitL zs.length [(i : Int), (i : Int)])) := evalR_rel (ops_stretch 2 3) P g.outs ⟨by rw [lineL_length, lineL_length], fun j => by
    rw [lineL_getD, lineL_getD]
    split
    · rename_i hj
      unfold lineRow
      refine stretch_mk rfl fun k _ => ?_
      by_cases h0 : k = 0
      · subst h0; simp
      · by_cases h1 : k = 1
        · subst h1
          simp only [if_neg h0, if_true, cf_unit hj, cntN_one, cntN_two]
          split <;> rfl
        · simp [h0, h1]
    · exact (ops_stretch 2 3).nil⟩
  cases ht : tayR 3 P g.outs zs (unitL zs.length [(i : Int)]) with
  | err c =>
    cases ht2 : tayR 3 P g.outs zs (unitL zs.length [(i : Int), (i : Int)]) with
    | err c' => rfl
    | ok _ _ => rw [ht, ht2] at h; exact h.elim
  | ok zss t =>
    cases ht2 : tayR 3 P g.outs zs (unitL zs.length [(i : Int), (i : Int)]) with
    | err c' => rw [ht, ht2] at h; exact h.elim
    | ok zss' t' =>
      rw [ht, ht2] at h
      exact (h.2.2 pk).2.2 2
/-- an entry of the matrix of second derivatives -/
def hesE (P : List Fn) (g : Fn) (zs : List Int) (pk i k : Nat) : Int :=
  if i = k then tm 2 (co2 P g zs pk [(i : Int)]) else rs (co2 P g zs pk [(i : Int), (k : Int)] - (co2 P g zs pk [(i : Int)] + co2 P g zs pk [(k : Int)]))
theorem coRes_ok {n : Nat} (hn : 1 ≤ n) {P : List Fn} {outs : Es} {zs : List Int} {vs : List (List Int)} {t : Nat} (h : evalR 1 P outs (ones zs) = .ok vs t) (ds : List Int) (pk k : Nat) : (coRes (tayR n P outs zs ds) pk k).2 = 0 := by
  obtain ⟨zss, e⟩ := tay_ok hn h ds
  rw [e]; rfl
theorem coRes_no {n : Nat} (hn : 1 ≤ n) {P : List Fn} {outs : Es} {zs : List Int} {c : Int} (h : evalR 1 P outs (ones zs) = .err c) (ds : List Int) (pk k : Nat) : coRes (tayR n P outs zs ds) pk k = (0, c) := by
  rw [tay_err hn h ds]; rfl
theorem fstErr_zero {F : Nat → Int} (n : Nat) (h : ∀ k, F k = 0) : fstErr F n = 0 := by
  induction n with
  | zero => rfl
  | succ n ih => exact fstErr_next ih (h n)
theorem mix_two {P : List Fn} {g : Fn} {zs : List Int} {vs : List (List Int)} {t : Nat} (h : evalR 1 P g.outs (ones zs) = .ok vs t) (pk i k : Nat) : mixRes P g zs [(i : Int), (k : Int)] pk = (hesE P g zs pk i k, 0) := by
  have h0 : fstErr (mixC P g zs [(i : Int), (k : Int)] pk) 4 = 0 := fstErr_zero 4 fun s => coRes_ok (by simp) h _ _ _
  have c0 : chs [(i : Int), (k : Int)] 0 2 = [] := by simp [chs, bitB]
  have c1 : chs [(i : Int), (k : Int)] 1 2 = [(i : Int)] := by simp [chs, bitB, cf]
  have c2 : chs [(i : Int), (k : Int)] 2 2 = [(k : Int)] := by simp [chs, bitB, cf]
  have c3 : chs [(i : Int), (k : Int)] 3 2 = [(i : Int), (k : Int)] := by simp [chs, bitB, cf]
  have e0 : mixG P g zs [(i : Int), (k : Int)] pk 0 = co2 P g zs pk [] := by
    unfold mixG oddN mixF
    simp only [List.length_cons, List.length_nil, Nat.zero_add, Nat.reduceAdd, c0]
    rfl
  have e1 : mixG P g zs [(i : Int), (k : Int)] pk 1 = rs (-co2 P g zs pk [(i : Int)]) := by
    unfold mixG oddN mixF
    simp only [List.length_cons, List.length_nil, Nat.zero_add, Nat.reduceAdd, c1]
    rfl
  have e2 : mixG P g zs [(i : Int), (k : Int)] pk 2 = rs (-co2 P g zs pk [(k : Int)]) := by
    unfold mixG oddN mixF
    simp only [List.length_cons, List.length_nil, Nat.zero_add, Nat.reduceAdd, c2]
    rfl
  have e3 : mixG P g zs [(i : Int), (k : Int)] pk 3 = co2 P g zs pk [(i : Int), (k : Int)] := by
    unfold mixG oddN mixF
    simp only [List.length_cons, List.length_nil, Nat.zero_add, Nat.reduceAdd, c3]
    rfl
  have e : sumP (mixG P g zs [(i : Int), (k : Int)] pk) 4 = pl (pl (pl (pl 0 (co2 P g zs pk [])) (rs (-co2 P g zs pk [(i : Int)]))) (rs (-co2 P g zs pk [(k : Int)]))) (co2 P g zs pk [(i : Int), (k : Int)]) := by
    rw [← e0, ← e1, ← e2, ← e3]; rfl
  show (if fstErr (mixC P g zs [(i : Int), (k : Int)] pk) 4 = 0 then (sumP (mixG P g zs [(i : Int), (k : Int)] pk) 4, 0) else (0, fstErr (mixC P g zs [(i : Int), (k : Int)] pk) 4)) = _
  rw [if_pos h0, e, co2_nil]
  congr 1
  unfold hesE
  by_cases hik : i = k
  · subst hik
    have h2 := co2_twice P g zs pk i
    rw [if_pos rfl]
    generalize co2 P g zs pk [(i : Int), (i : Int)] = x3 at *
    generalize co2 P g zs pk [(i : Int)] = x1 at *
    unfold pl rs tm at *
    omega
  · rw [if_neg hik]
    unfold pl rs
    omega
theorem hesE_bd (P : List Fn) (g : Fn) (zs : List Int) (pk i k : Nat) : 0 ≤ hesE P g zs pk i k ∧ hesE P g zs pk i k ≤ 1000002 := by
  unfold hesE tm rs
  split <;> omega
def hesRow (P : List Fn) (g : Fn) (zs : List Int) (pk i : Nat) : List Int := mk zs.length (hesE P g zs pk i)
def hesRows (P : List Fn) (g : Fn) (zs : List Int) (pk : Nat) : List (List Int) := (List.range zs.length).map (hesRow P g zs pk)
def hesRes (P : List Fn) (g : Fn) (zs : List Int) (pk : Nat) : List (List Int) × Int :=
  match evalR 1 P g.outs (ones zs) with
  | .err c => ([], c)
  | .ok _ _ => (hesRows P g zs pk, 0)
/-- what HessianOf answers -/
def hesV (P : List Fn) (f pick : Int) (zs : List Int) : List (List Int) × Int :=
  if pickV P f pick zs zs = 0 then (match P[f.toNat]? with
    | none => ([], 0)
    | some g => hesRes P g zs pick.toNat)
  else ([], pickV P f pick zs zs)
theorem hesRow_length (P : List Fn) (g : Fn) (zs : List Int) (pk i : Nat) : (hesRow P g zs pk i).length = zs.length := mk_length _ _
theorem hesRows_length (P : List Fn) (g : Fn) (zs : List Int) (pk : Nat) : (hesRows P g zs pk).length = zs.length := by simp [hesRows]
theorem isS_hesRow (P : List Fn) (g : Fn) (zs : List Int) (pk i : Nat) : IsS (hesRow P g zs pk i) := IsS.mk_ fun k => hesE_bd P g zs pk i k
theorem hesRows_tot {P : List Fn} {m : Nat} {g : Fn} {zs : List Int} (pk : Nat) (h : ArgIn P m g zs) : tot (hesRows P g zs pk) ≤ 144 := by
  have h1 : tot (hesRows P g zs pk) ≤ (hesRows P g zs pk).length * 12 := tot_le fun z hz => by
    unfold hesRows at hz
    obtain ⟨k, _, rfl⟩ := List.mem_map.1 hz
    rw [hesRow_length]
    exact h.z12
  rw [hesRows_length] at h1
  have := h.z12
  have : zs.length * 12 ≤ 12 * 12 := Nat.mul_le_mul_right _ this
  omega
theorem hesV_of (P : List Fn) (f pick : Int) (zs : List Int) : (hesV P f pick zs).1.length ≤ 12 ∧ tot (hesV P f pick zs).1 ≤ 144 := by
  unfold hesV
  split
  · rename_i h
    obtain ⟨_, m, g, rfl, hin⟩ := argV_zero (lineV_zero (pickV_zero h).1).1
    simp only [Int.toNat_natCast, hin.fn.fn]
    unfold hesRes
    split
    · simp [tot]
    · exact ⟨by rw [hesRows_length]; exact hin.z12, hesRows_tot _ hin⟩
  · simp [tot]
theorem hesV_len (P : List Fn) (f pick : Int) (zs : List Int) : (hesV P f pick zs).1.length ≤ 4194304 := by have := (hesV_of P f pick zs).1; omega
theorem hesV_tot (P : List Fn) (f pick : Int) (zs : List Int) : tot (hesV P f pick zs).1 ≤ 4194304 := by have := (hesV_of P f pick zs).2; omega
/-- the sum of products -/
def dotL (a b : List Int) : Nat → Int
  | 0 => 0
  | k + 1 => pl (dotL a b k) (tm (cf a k) (cf b k))
theorem dotL_bd (a b : List Int) (k : Nat) : 0 ≤ dotL a b k ∧ dotL a b k ≤ 1000002 := by
  cases k with
  | zero => simp [dotL]
  | succ k => unfold dotL pl; omega
def htRes (P : List Fn) (g : Fn) (zs ds : List Int) (pk : Nat) : List Int × Int :=
  match evalR 1 P g.outs (ones zs) with
  | .err c => ([], c)
  | .ok _ _ => (mk zs.length fun i => dotL (hesRow P g zs pk i) ds zs.length, 0)
/-- what HessianTimes answers -/
def htV (P : List Fn) (f pick : Int) (zs ds : List Int) : List Int × Int :=
  if pickV P f pick zs ds = 0 then (match P[f.toNat]? with
    | none => ([], 0)
    | some g => htRes P g zs ds pick.toNat)
  else ([], pickV P f pick zs ds)
theorem htV_len (P : List Fn) (f pick : Int) (zs ds : List Int) : (htV P f pick zs ds).1.length ≤ 4194304 := by
  unfold htV
  split
  · rename_i h
    obtain ⟨_, m, g, rfl, hin⟩ := argV_zero (lineV_zero (pickV_zero h).1).1
    simp only [Int.toNat_natCast, hin.fn.fn]
    unfold htRes
    split
    · simp
    · simp only [mk_length]; have := hin.z12; omega
  · simp

end Go.Proofs.YtlnikpjcggfdmaaGreat

/- Ground: rows of integers that grow within a row of rows. -/
namespace Go.Proofs.YtlnikpjcggfdmaaGreat
open Go.RowKit Plain

section
variable {P : Program} (w : World)
/-- where a row lies after an append: where it lay, or in a new block -/
theorem append_where (base : Nat) (t ty e : TypeId) (i : TypeInfo) (z : Value) (size bytes : Nat) (ht : P.underlying t = some (.slice e)) (hi : P.info? e = some i) (hz : i.zero = some z)
    (hsize : i.size = size) (hby : i.bytes = bytes) (v : Value) (n : Nat) (xs : List Value) (hown : w.ownsRow base e size v n xs)
    (a : Addr) (m c : Nat) (news : List Value) (hl : news.length = m * size) (hnews : ∀ j u, news[j]? = some u → w.cell? (a.add j) = some u) (h1 : ∀ u ∈ news, u.oneCell' = true)
    (h63 : n + m ≤ maxLen) (hbytes : (n + m) * bytes ≤ 140737488355328) (hm : 0 < m) {v' : Value} {w' : World} (hrun : (Builtin.append_ #[t, t] ty #[v, .slice (some a) m c]).run P w = .ok v' w') :
    v'.ownBlock = v.ownBlock ∨ v'.ownBlock = some w.heap.size := by
  subst hsize
  subst hby
  have hsmall : n + m ≤ 9223372036854775807 := by simp only [maxLen] at h63; omega
  rcases id hown.2 with ⟨rfl, rfl⟩ | ⟨g, cap, cur, rfl, _⟩
  · have hr := run_append_nil (P := P) w t ty e i z ht hi hz a m c news hl hnews hm (by omega) (by have hb := hbytes; simp only [Nat.zero_add] at hb; omega)
    rw [hr] at hrun
    injection hrun with e1 _
    exact .inr (by rw [← e1]; rfl)
  · by_cases hroom : n + m ≤ cap
    · obtain ⟨w2, hr, _⟩ := run_append_fits (P := P) w base t ty e i _ ht hi rfl g n cap xs hown a m c news hl hnews h1 hroom
      rw [hr] at hrun
      injection hrun with e1 _
      exact .inl (by rw [← e1]; rfl)
    · have hr := run_append_grow (P := P) w t ty e i z ht hi hz ⟨g, 0, none⟩ n cap xs hown.1 (hown.cells (g := g) rfl) a m c news hl hnews (by omega) (by omega) (growslice_fits (by omega) hbytes)
      rw [hr] at hrun
      injection hrun with e1 _
      exact .inr (by rw [← e1]; rfl)

theorem wp_append_own2 {o : Oper} {a : Act} {K : Act → World → Prop} {Q : Exit → Act → World → Prop} (s x : Operand) (t : TypeId)
    (ho : o.op = .call { callee := .builtin .append, args := #[s, x], argTypes := #[t, t] })
    (base : Nat) (e : TypeId) (i : TypeInfo) (z : Value) (size bytes : Nat) (ht : P.underlying t = some (.slice e)) (hi : P.info? e = some i) (hz : i.zero = some z)
    (hsize : i.size = size) (hby : i.bytes = bytes) (hzs : z.cells.size = size) (hsz : 0 < size)
    (v : Value) (n : Nat) (xs : List Value) (hs : a.eval s = v) (hown : w.ownsRow base e size v n xs)
    (ad : Addr) (m c : Nat) (news : List Value) (hx : a.eval x = .slice (some ad) m c) (hl : news.length = m * size) (hnews : ∀ j u, news[j]? = some u → w.cell? (ad.add j) = some u) (h1 : ∀ u ∈ news, u.oneCell' = true)
    (h63 : n + m ≤ maxLen) (hbytes : (n + m) * bytes ≤ 140737488355328) (hbase : base ≤ w.heap.size) (hm : 0 < m)
    (h : ∀ v' w', w'.ownsRow base e size v' (n + m) (xs ++ news) → w.grownBy w' v.ownBlock → (v'.ownBlock = v.ownBlock ∨ v'.ownBlock = some w.heap.size) → K (a.put o.dst v') w') : o.wp P a w K Q := by
  obtain ⟨v', w', hr, h2, h3, _⟩ := run_append_own (P := P) w base t o.type e i z size bytes ht hi hz hsize hby hzs hsz v n xs hown ad m c news hl hnews h1 h63 hbytes hbase
  have h5 := append_where (P := P) w base t o.type e i z size bytes ht hi hz hsize hby v n xs hown ad m c news hl hnews h1 h63 hbytes hm hr
  unfold Oper.wp execOp
  simp only [ho, resolve, invoke, builtin, Sem.run_bind, Sem.run_pure, Result.andThen_ok, List.map_toArray, List.map_cons, List.map_nil, hs, hx, hr]
  exact h v' w' h2 h3 h5
end

theorem wpList_append_own2 {P : Program} (w : World) {ops : Array Oper} {rest : List Oper} {o : Oper} {a : Act} {Q : Exit → Act → World → Prop} (hgd : o.guard = none) (s x : Operand) (t : TypeId)
    (ho : o.op = .call { callee := .builtin .append, args := #[s, x], argTypes := #[t, t] })
    (base : Nat) (e : TypeId) (i : TypeInfo) (z : Value) (size bytes : Nat) (ht : P.underlying t = some (.slice e)) (hi : P.info? e = some i) (hz : i.zero = some z)
    (hsize : i.size = size) (hby : i.bytes = bytes) (hzs : z.cells.size = size) (hsz : 0 < size)
    (v : Value) (n : Nat) (xs : List Value) (hs : a.eval s = v) (hown : w.ownsRow base e size v n xs)
    (ad : Addr) (m c : Nat) (news : List Value) (hx : a.eval x = .slice (some ad) m c) (hl : news.length = m * size) (hnews : ∀ j u, news[j]? = some u → w.cell? (ad.add j) = some u) (h1 : ∀ u ∈ news, u.oneCell' = true)
    (h63 : n + m ≤ maxLen) (hbytes : (n + m) * bytes ≤ 140737488355328) (hbase : base ≤ w.heap.size) (hm : 0 < m)
    (h : ∀ v' w', w'.ownsRow base e size v' (n + m) (xs ++ news) → w.grownBy w' v.ownBlock → (v'.ownBlock = v.ownBlock ∨ v'.ownBlock = some w.heap.size) → wpList P ops Q rest (a.put o.dst v') w') : wpList P ops Q (o :: rest) a w :=
  wpList_plain hgd fun _ hK => wp_append_own2 w s x t ho base e i z size bytes ht hi hz hsize hby hzs hsz v n xs hs hown ad m c news hx hl hnews h1 h63 hbytes hbase hm fun v' w' h2 h3 h4 => hK _ _ (h v' w' h2 h3 h4)

theorem step_append_own2 {P : Program} {w : World} {ops : Array Oper} {o : Oper} {a : Act} {K : Act → World → Prop} {Q : Exit → Act → World → Prop} {E : Prop} (hgd : o.guard = none) (s x : Operand) (t : TypeId)
    (ho : o.op = .call { callee := .builtin .append, args := #[s, x], argTypes := #[t, t] })
    (base : Nat) (e : TypeId) (i : TypeInfo) (z : Value) (size bytes : Nat) (ht : P.underlying t = some (.slice e)) (hi : P.info? e = some i) (hz : i.zero = some z)
    (hsize : i.size = size) (hby : i.bytes = bytes) (hzs : z.cells.size = size) (hsz : 0 < size)
    (v : Value) (n : Nat) (xs : List Value) (hs : a.eval s = v) (hown : w.ownsRow base e size v n xs)
    (ad : Addr) (m c : Nat) (news : List Value) (hx : a.eval x = .slice (some ad) m c) (hl : news.length = m * size) (hnews : ∀ j u, news[j]? = some u → w.cell? (ad.add j) = some u) (h1 : ∀ u ∈ news, u.oneCell' = true)
    (h63 : n + m ≤ maxLen) (hbytes : (n + m) * bytes ≤ 140737488355328) (hbase : base ≤ w.heap.size) (hm : 0 < m)
    (h : ∀ v' w', w'.ownsRow base e size v' (n + m) (xs ++ news) → w.grownBy w' v.ownBlock → (v'.ownBlock = v.ownBlock ∨ v'.ownBlock = some w.heap.size) → K (a.put o.dst v') w') :
    if Region.wanted o (yielded ops a.tmps) = true then Oper.wp P o a w K Q else E := by
  have hw : Region.wanted o (yielded ops a.tmps) = true := by simp [Region.wanted, hgd]
  rw [if_pos hw]
  exact wp_append_own2 w s x t ho base e i z size bytes ht hi hz hsize hby hzs hsz v n xs hs hown ad m c news hx hl hnews h1 h63 hbytes hbase hm h

/-- m rows of integers, each in a block of its own, in an own row -/
def Grow (w : World) (B : Nat) (v : Value) (m : Nat) (R : Nat → List Int) : Prop :=
  ∃ vs : List Value, w.ownsRow B 25 1 v m vs ∧ (∀ i, i < m → ∃ u, vs[i]? = some u ∧ IntRow w B u (R i)) ∧
    ∀ (i j : Nat) (u u' : Value) (q : Nat), i < j → vs[i]? = some u → vs[j]? = some u' → u.ownBlock = some q → u'.ownBlock ≠ some q

theorem ownsRow_keep {w w' : World} {base e n : Nat} {v : Value} {xs : List Value} (h : w.ownsRow base e 1 v n xs) (hb : ∀ g, v.ownBlock = some g → w'.heap[g]? = w.heap[g]?) : w'.ownsRow base e 1 v n xs := by
  refine ⟨h.1, ?_⟩
  rcases h.2 with hn | ⟨g, cap, cur, rfl, hb', hgg, rest⟩
  · exact .inl hn
  · exact .inr ⟨g, cap, cur, rfl, hb', by rw [hb g rfl]; exact hgg, rest⟩
theorem Grow.below {w w' : World} {B m : Nat} {v : Value} {R : Nat → List Int} (h : Grow w B v m R) (hb : Below w.heap.size w w') : Grow w' B v m R := by
  obtain ⟨vs, h1, h2, h3⟩ := h
  refine ⟨vs, ownsRow_keep h1 fun g hg => hb.block g (h1.lt g hg).2, fun i hi => ?_, h3⟩
  obtain ⟨u, hu, hr⟩ := h2 i hi
  exact ⟨u, hu, hr.keep fun g hg => hb.block g (hr.lt hg).2⟩
theorem Grow.start (w : World) (R : Nat → List Int) : Grow (w.alloc (.cells #[] 25)) w.heap.size (.slice (some ⟨w.heap.size, 0, none⟩) 0 0) 0 R :=
  ⟨[], World.ownsRow_lit w #[] 0 (Nat.le_refl _) (by unfold maxLen; omega) (by rfl), fun i hi => by omega, fun i j u u' q _ h => by simp at h⟩
theorem Grow.cell {w : World} {B m k cp : Nat} {A : Option Addr} {R : Nat → List Int} (h : Grow w B (.slice A m cp) m R) (hk : k < m) :
    ∃ g Ak ck, A = some ⟨g, 0, none⟩ ∧ B ≤ g ∧ g < w.heap.size ∧ w.cell? ⟨g, k, none⟩ = some (.slice Ak (R k).length ck) ∧ w.frozen? ⟨g, k, none⟩ = false ∧ IntRow w B (.slice Ak (R k).length ck) (R k) := by
  obtain ⟨vs, h1, h2, _⟩ := h
  obtain ⟨u, hu, hr⟩ := h2 k hk
  obtain ⟨g, rfl, hg1, hg2, _, hc⟩ := ownsRow_at h1 (by omega)
  obtain ⟨Ak, ck, rfl⟩ := hr.form
  exact ⟨g, Ak, ck, rfl, hg1, hg2, (hc k hk).trans hu, World.ownsRow.frozenAt h1 _, hr⟩
theorem Grow.congr {w : World} {B m : Nat} {v : Value} {R R' : Nat → List Int} (h : Grow w B v m R) (hR : ∀ i, i < m → R' i = R i) : Grow w B v m R' := by
  obtain ⟨vs, h1, h2, h3⟩ := h
  refine ⟨vs, h1, fun i hi => ?_, h3⟩
  rw [hR i hi]
  exact h2 i hi
theorem Grow.weaken {w : World} {B B' m : Nat} {v : Value} {R : Nat → List Int} (h : Grow w B v m R) (hB : B' ≤ B) : Grow w B' v m R := by
  obtain ⟨vs, h1, h2, h3⟩ := h
  have wk : ∀ {e n : Nat} {u : Value} {xs : List Value}, w.ownsRow B e 1 u n xs → w.ownsRow B' e 1 u n xs := fun ho => ⟨ho.1, by
    rcases ho.2 with hn | ⟨g, cap, cur, e1, e2, rest⟩
    · exact .inl hn
    · exact .inr ⟨g, cap, cur, e1, by omega, rest⟩⟩
  exact ⟨vs, wk h1, fun i hi => by obtain ⟨u, hu, hr⟩ := h2 i hi; exact ⟨u, hu, wk hr⟩, h3⟩
/-- an empty row more -/
theorem Grow.push {wr w2 : World} {B m cp : Nat} {Av : Option Addr} {v2 : Value} {R : Nat → List Int} {t : TypeId} (h : Grow wr B (.slice Av m cp) m R) (hB : B ≤ wr.heap.size) (hR : R m = []) (vs : List Value)
    (hvs : wr.ownsRow B 25 1 (.slice Av m cp) m vs ∧ (∀ i, i < m → ∃ u, vs[i]? = some u ∧ IntRow wr B u (R i)) ∧
      ∀ (i j : Nat) (u u' : Value) (q : Nat), i < j → vs[i]? = some u → vs[j]? = some u' → u.ownBlock = some q → u'.ownBlock ≠ some q)
    (hown : w2.ownsRow B 25 1 v2 (m + 1) (vs ++ [.slice (some ⟨wr.heap.size, 0, none⟩) 0 0]))
    (hg : ((wr.alloc (.cells #[] 2)).alloc (.cells #[.slice (some ⟨wr.heap.size, 0, none⟩) 0 0] t)).grownBy w2 (Value.slice Av m cp).ownBlock) :
    (∃ A2 c2, v2 = .slice A2 (m + 1) c2) ∧ Grow w2 B v2 (m + 1) R ∧ Below B wr w2 := by
  obtain ⟨h1, h2, h3⟩ := hvs
  have hlen : vs.length = m := by have := h1.1; omega
  have hgr : Below wr.heap.size wr ((wr.alloc (.cells #[] 2)).alloc (.cells #[.slice (some ⟨wr.heap.size, 0, none⟩) 0 0] t)) := by go_grown
  have hnew : IntRow (wr.alloc (.cells #[] 2)) B (.slice (some ⟨wr.heap.size, 0, none⟩) 0 0) [] := by
    have hl := World.ownsRow_lit (base := B) (e := 2) (size := 1) wr #[] 0 hB (by unfold maxLen; omega) (by rfl)
    exact hl
  have hnew2 : IntRow ((wr.alloc (.cells #[] 2)).alloc (.cells #[.slice (some ⟨wr.heap.size, 0, none⟩) 0 0] t)) B (.slice (some ⟨wr.heap.size, 0, none⟩) 0 0) [] := hnew.alloc _
  have hty : ∀ q, (Value.slice Av m cp).ownBlock = some q → Typed wr q 25 := fun q hq => own_typed h1 hq
  have hkeep : ∀ b, b < wr.heap.size → Typed wr b 2 → w2.heap[b]? = wr.heap[b]? := fun b hb ht => by
    have hne : some b ≠ (Value.slice Av m cp).ownBlock := fun e => ht.ne (hty b e.symm) (by decide) rfl
    exact (hg.block b (by simp; omega) hne).trans (hgr.block b hb)
  refine ⟨?_, ⟨vs ++ [.slice (some ⟨wr.heap.size, 0, none⟩) 0 0], hown, fun i hi => ?_, fun i j u u' q hij hu hu' hq => ?_⟩, ?_⟩
  · obtain ⟨g2, c, hv, _⟩ := World.ownsRow.form hown (by omega)
    exact ⟨_, c, hv⟩
  · by_cases him : i < m
    · obtain ⟨u, hu, hr⟩ := h2 i him
      exact ⟨u, by rw [List.getElem?_append_left (by omega)]; exact hu, hr.keep fun g hgg => hkeep g (hr.lt hgg).2 (own_typed hr hgg)⟩
    · obtain rfl : i = m := by omega
      refine ⟨.slice (some ⟨wr.heap.size, 0, none⟩) 0 0, by rw [List.getElem?_append_right (by omega), hlen]; simp, ?_⟩
      rw [hR]
      refine hnew2.keep fun g hgg => hg.block g (hnew2.lt hgg).2 fun e => ?_
      simp [Value.ownBlock] at hgg
      subst hgg
      have := (h1.lt _ e.symm).2
      omega
  · by_cases hjm : j < m
    · rw [List.getElem?_append_left (by omega)] at hu hu'
      exact h3 i j u u' q hij hu hu' hq
    · have hjl := (List.getElem?_eq_some_iff.1 hu').1
      simp at hjl
      obtain rfl : j = m := by omega
      rw [List.getElem?_append_left (by omega)] at hu
      rw [List.getElem?_append_right (by omega), hlen] at hu'
      simp at hu'
      subst hu'
      obtain ⟨u0, hu0, hr0⟩ := h2 i hij
      rw [hu] at hu0
      obtain rfl : u = u0 := by simpa using hu0
      have := (hr0.lt hq).2
      simp [Value.ownBlock]
      omega
  · have hs := hg.size
    simp at hs
    refine ⟨hg.os.trans hgr.os, hg.tape.trans hgr.tape, hg.output.trans hgr.output, by omega, fun i hi => ?_⟩
    exact (hg.block i (by simp; omega) fun e => by have := (h1.lt i e.symm).1; omega).trans (hgr.block i (by omega))
theorem Grow.parts {w w' : World} {B m : Nat} {v : Value} {R : Nat → List Int} (h : Grow w B v m R) (hb : Below w.heap.size w w') :
    ∃ vs : List Value, w'.ownsRow B 25 1 v m vs ∧ (w.ownsRow B 25 1 v m vs ∧ (∀ i, i < m → ∃ u, vs[i]? = some u ∧ IntRow w B u (R i)) ∧
      ∀ (i j : Nat) (u u' : Value) (q : Nat), i < j → vs[i]? = some u → vs[j]? = some u' → u.ownBlock = some q → u'.ownBlock ≠ some q) := by
  obtain ⟨vs, h1, h2, h3⟩ := h
  exact ⟨vs, ownsRow_keep h1 fun g hg => hb.block g (h1.lt g hg).2, h1, h2, h3⟩
/-- one row is a number longer -/
theorem Grow.grow {wr W w2 : World} {B m k g cp ck : Nat} {Ak : Option Addr} {v2 : Value} {R R' : Nat → List Int} {x : Int} (h : Grow wr B (.slice (some ⟨g, 0, none⟩) m cp) m R) (hk : k < m) (hB : B ≤ wr.heap.size) (hW : Below wr.heap.size wr W)
    (hc : wr.cell? ⟨g, k, none⟩ = some (.slice Ak (R k).length ck)) (hown : w2.ownsRow B 2 1 v2 ((R k).length + 1) ((R k).map (Value.int .i64) ++ [.int .i64 x])) (hg : W.grownBy w2 (Value.slice Ak (R k).length ck).ownBlock)
    (hw : v2.ownBlock = (Value.slice Ak (R k).length ck).ownBlock ∨ v2.ownBlock = some W.heap.size) (hR : R' k = R k ++ [x]) (hR2 : ∀ i, i ≠ k → R' i = R i) :
    Grow (w2.setCell ⟨g, k, none⟩ v2) B (.slice (some ⟨g, 0, none⟩) m cp) m R' ∧ Below B wr (w2.setCell ⟨g, k, none⟩ v2) ∧ Only (fun q => q = g ∨ (Value.slice Ak (R k).length ck).ownBlock = some q) wr (w2.setCell ⟨g, k, none⟩ v2) := by
  obtain ⟨vs, h1, h2, h3⟩ := h
  obtain ⟨g', e1, hg1, hg2, hty, hcs⟩ := ownsRow_at h1 (by omega)
  obtain rfl : g = g' := by simpa using e1
  obtain ⟨u, hu, hr⟩ := h2 k hk
  have hu2 := (hcs k hk).symm.trans hc
  rw [hu] at hu2
  obtain rfl : u = .slice Ak (R k).length ck := by simpa using hu2
  generalize hub : (Value.slice Ak (R k).length ck) = u at *
  have hne : ∀ q, u.ownBlock = some q → q ≠ g := fun q hq => (own_typed hr hq).ne hty (by decide)
  have hkeep : ∀ b, b < wr.heap.size → u.ownBlock ≠ some b → w2.heap[b]? = wr.heap[b]? := fun b hb hn => (hg.block b (by have := hW.size; omega) fun e => hn e.symm).trans (hW.block b hb)
  have hog : w2.heap[g]? = wr.heap[g]? := hkeep g hg2 fun e => hne g e rfl
  have ho2 : w2.ownsRow B 25 1 (.slice (some ⟨g, 0, none⟩) m cp) m vs := ownsRow_keep h1 fun q hq => by
    simp [Value.ownBlock] at hq
    subst hq
    exact hog
  have ho3 := (ho2.stored k v2).1
  have hvt : ∀ q, v2.ownBlock = some q → q ≠ g := fun q hq => by
    have h4 := own_typed hown hq
    have h5 : Typed w2 g 25 := hty.keep hog
    exact h4.ne h5 (by decide)
  have hset : ∀ b, b ≠ g → (w2.setCell ⟨g, k, none⟩ v2).heap[b]? = w2.heap[b]? := fun b hb => Below.heap_setCell w2 ⟨g, k, none⟩ v2 b hb
  have hlen : vs.length = m := by have := h1.1; omega
  refine ⟨⟨vs.set k v2, ho3, fun i hi => ?_, fun i j a a' q hij ha ha' hq => ?_⟩, ?_, ?_⟩
  rotate_left 2
  · have hs := hg.size
    have hs2 := hW.size
    refine ⟨hg.os.trans hW.os, hg.tape.trans hW.tape, hg.output.trans hW.output, by simp [World.setCell]; omega, fun i hi => ?_⟩
    exact (hset i (by omega)).trans (hkeep i (by omega) fun e => by have := (hr.lt e).1; omega)
  rotate_left 1
  · by_cases hik : i = k
    · subst hik
      refine ⟨v2, List.getElem?_set_self (by omega), ?_⟩
      rw [hR]
      have h4 : IntRow w2 B v2 (R i ++ [x]) := IntRow.push rfl hown
      exact h4.keep fun q hq => hset q (hvt q hq)
    · obtain ⟨a, ha, hra⟩ := h2 i hi
      refine ⟨a, by rw [List.getElem?_set_ne (by omega)]; exact ha, ?_⟩
      rw [hR2 i hik]
      refine hra.keep fun q hq => (hset q ((own_typed hra hq).ne hty (by decide))).trans (hkeep q (hra.lt hq).2 fun e => ?_)
      rcases Nat.lt_or_gt_of_ne hik with hlt | hlt
      · exact h3 i k a u q hlt ha hu hq e
      · exact h3 k i u a q hlt hu ha e hq
  · have hil : i < m := by
      have := (List.getElem?_eq_some_iff.1 ha').1
      simp at this; omega
    have old : ∀ i' a'' q', i' ≠ k → (vs.set k v2)[i']? = some a'' → a''.ownBlock = some q' → vs[i']? = some a'' ∧ q' < wr.heap.size := fun i' a'' q' hn ha2 hq2 => by
      rw [List.getElem?_set_ne (by omega)] at ha2
      have hi' : i' < m := by have := (List.getElem?_eq_some_iff.1 ha2).1; omega
      obtain ⟨a3, ha3, hr3⟩ := h2 i' hi'
      rw [ha2] at ha3
      obtain rfl : a'' = a3 := by simpa using ha3
      exact ⟨ha2, (hr3.lt hq2).2⟩
    intro hq'
    by_cases hik : i = k
    · subst hik
      rw [List.getElem?_set_self (by omega)] at ha
      obtain rfl : v2 = a := by simpa using ha
      obtain ⟨o1, o2⟩ := old j a' q (by omega) ha' hq'
      rcases hw with hw | hw
      · rw [hw] at hq
        exact h3 i j u a' q hij hu o1 hq hq'
      · rw [hw] at hq
        have := hW.size
        simp at hq
        omega
    · obtain ⟨o1, o2⟩ := old i a q hik ha hq
      by_cases hjk : j = k
      · subst hjk
        rw [List.getElem?_set_self (by omega)] at ha'
        obtain rfl : v2 = a' := by simpa using ha'
        rcases hw with hw | hw
        · rw [hw] at hq'
          exact h3 i j a u q hij o1 hu hq hq'
        · rw [hw] at hq'
          have := hW.size
          simp at hq'
          omega
      · obtain ⟨p1, _⟩ := old j a' q hjk ha' hq'
        exact h3 i j a a' q hij o1 p1 hq hq'
  · have hs := hg.size
    have hs2 := hW.size
    exact ⟨hg.os.trans hW.os, hg.tape.trans hW.tape, hg.output.trans hW.output, by simp [World.setCell]; omega, fun i hi hn => (hset i (fun e => hn (.inl e))).trans (hkeep i hi fun e => hn (.inr e))⟩
/-- the place of the row, behind the append -/
theorem Grow.slot {wr W w2 : World} {B m k g cp ck : Nat} {Ak : Option Addr} {R : Nat → List Int} (h : Grow wr B (.slice (some ⟨g, 0, none⟩) m cp) m R) (hk : k < m) (hW : Below wr.heap.size wr W)
    (hc : wr.cell? ⟨g, k, none⟩ = some (.slice Ak (R k).length ck)) (hg : W.grownBy w2 (Value.slice Ak (R k).length ck).ownBlock) :
    w2.cell? ⟨g, k, none⟩ = some (.slice Ak (R k).length ck) ∧ w2.frozen? ⟨g, k, none⟩ = false := by
  obtain ⟨vs, h1, h2, _⟩ := h
  obtain ⟨g', e1, hg1, hg2, hty, hcs⟩ := ownsRow_at h1 (by omega)
  obtain rfl : g = g' := by simpa using e1
  obtain ⟨u, hu, hr⟩ := h2 k hk
  have hu2 := (hcs k hk).symm.trans hc
  rw [hu] at hu2
  obtain rfl : u = .slice Ak (R k).length ck := by simpa using hu2
  have hne : some g ≠ (Value.slice Ak (R k).length ck).ownBlock := fun e => (own_typed hr e.symm).ne hty (by decide) rfl
  have hb : w2.heap[g]? = wr.heap[g]? := (hg.block g (by have := hW.size; omega) hne).trans (hW.block g hg2)
  exact ⟨(World.cell?_of_block (a := ⟨g, k, none⟩) hb).trans hc, (World.frozen?_of_block (a := ⟨g, k, none⟩) hb).trans (World.ownsRow.frozenAt h1 _)⟩
/-- no row of integers lies in a block of X -/
def Avoid (w : World) (g m : Nat) (X : Nat → Prop) : Prop := ∀ i u q, i < m → w.cell? ⟨g, i, none⟩ = some u → u.ownBlock = some q → ¬ X q
theorem Grow.avoid {w w' : World} {B m cp g : Nat} {R : Nat → List Int} {X : Nat → Prop} (h : Grow w B (.slice (some ⟨g, 0, none⟩) m cp) m R) (hb : Below w.heap.size w w') (hX : ∀ q, X q → w.heap.size ≤ q) : Avoid w' g m X := fun i u q hi hu hq hx => by
  obtain ⟨g', Ak, ck, e, h1, h2, hc, _, hr⟩ := h.cell hi
  obtain rfl : g = g' := by simpa using e
  rw [(hb.cell (p := ⟨g, i, none⟩) h2).trans hc] at hu
  obtain rfl : _ = u := by simpa using hu
  have := (hr.lt hq).2
  have := hX q hx
  omega
theorem Avoid.grow {wr W w2 : World} {B m k g cp ck : Nat} {Ak : Option Addr} {v2 : Value} {R : Nat → List Int} {X : Nat → Prop} (ha : Avoid wr g m X) (h : Grow wr B (.slice (some ⟨g, 0, none⟩) m cp) m R) (hk : k < m) (hW : Below wr.heap.size wr W)
    (hc : wr.cell? ⟨g, k, none⟩ = some (.slice Ak (R k).length ck)) (hg : W.grownBy w2 (Value.slice Ak (R k).length ck).ownBlock)
    (hw : v2.ownBlock = (Value.slice Ak (R k).length ck).ownBlock ∨ v2.ownBlock = some W.heap.size) (hX : ∀ q, X q → q < wr.heap.size) : Avoid (w2.setCell ⟨g, k, none⟩ v2) g m X := fun i u q hi hu hq hx => by
  by_cases hik : i = k
  · subst hik
    have hs := h.slot hk hW hc hg
    rw [World.cell?_setCell_same w2 _ _ hs.1] at hu
    obtain rfl : v2 = u := by simpa using hu
    rcases hw with e | e
    · rw [e] at hq
      exact ha i _ q hi hc hq hx
    · rw [e] at hq
      have := hX q hx
      have := hW.size
      simp at hq
      omega
  · obtain ⟨g', Ai, ci, e, h1, h2, hci, _, hr⟩ := h.cell hi
    obtain rfl : g = g' := by simpa using e
    have hne : some g ≠ (Value.slice Ak (R k).length ck).ownBlock := fun e => by
      obtain ⟨vs, q1, q2, _⟩ := h
      obtain ⟨g', e1, _, _, hty, hcs⟩ := ownsRow_at q1 (by omega)
      obtain rfl : g = g' := by simpa using e1
      obtain ⟨a, ha1, hra⟩ := q2 k hk
      have hu2 := (hcs k hk).symm.trans hc
      rw [ha1] at hu2
      obtain rfl : a = _ := by simpa using hu2
      exact (own_typed hra e.symm).ne hty (by decide) rfl
    have hb : w2.heap[g]? = wr.heap[g]? := (hg.block g (by have := hW.size; omega) hne).trans (hW.block g h2)
    rw [World.cell?_setCell_other w2 _ _ _ (fun e => by injection e with _ h _; omega)] at hu
    rw [World.cell?_of_block (a := ⟨g, i, none⟩) hb] at hu
    exact ha i u q hi hu hq hx
/-- rows as the end of a walk wants them -/
theorem Grow.rs {w : World} {B m cp : Nat} {A : Option Addr} {R : Nat → List Int} (h : Grow w B (.slice A m cp) m R) (hB : B ≤ w.heap.size) : RS w B w.heap.size A ((List.range m).map R) := by
  refine ⟨hB, Nat.le_refl _, fun hn => ?_, fun _ _ h hb => h.keep hb⟩
  have hm : 0 < m := by simpa using hn
  obtain ⟨vs, h1, h2, h3⟩ := h
  obtain ⟨g, rfl, hg1, hg2, hty, hcs⟩ := ownsRow_at h1 hm
  refine ⟨g, 0, fun i => ((vs[i]?).bind Value.ownBlock).getD 0, rfl, hg1, hg2, fun i zs hz => ?_, fun i j zi zj hij hzi hzj l0 l1 => ?_⟩
  · have hi : i < m := by have := (List.getElem?_eq_some_iff.1 hz).1; simpa using this
    rw [List.getElem?_map, List.getElem?_range hi] at hz
    obtain rfl : R i = zs := by simpa using hz
    obtain ⟨u, hu, hr⟩ := h2 i hi
    obtain ⟨Ai, ci, rfl⟩ := hr.form
    refine ⟨Ai, ci, by rw [Nat.zero_add, hcs i hi]; exact hu, fun h0 => ?_⟩
    obtain ⟨b, o, rfl, b1, b2, b3⟩ := hr.intsM h0
    have hq : (Value.slice (some ⟨b, o, none⟩) (R i).length ci).ownBlock = some b := rfl
    have hbb : ((vs[i]?).bind Value.ownBlock).getD 0 = b := by rw [hu]; rfl
    have hbb2 : b = (fun i => ((vs[i]?).bind Value.ownBlock).getD 0) i := hbb.symm
    generalize (fun i => ((vs[i]?).bind Value.ownBlock).getD 0) i = x at *
    subst hbb2
    exact ⟨o, rfl, b1, b2, (own_typed hr hq).ne hty (by decide), b3⟩
  · have hj : j < m := by have := (List.getElem?_eq_some_iff.1 hzj).1; simpa using this
    have hi : i < m := by omega
    rw [List.getElem?_map, List.getElem?_range hi] at hzi
    rw [List.getElem?_map, List.getElem?_range hj] at hzj
    obtain rfl : R i = zi := by simpa using hzi
    obtain rfl : R j = zj := by simpa using hzj
    obtain ⟨u, hu, hr⟩ := h2 i hi
    obtain ⟨u', hu', hr'⟩ := h2 j hj
    obtain ⟨Ai, ci, rfl⟩ := hr.form
    obtain ⟨Aj, cj, rfl⟩ := hr'.form
    obtain ⟨b, o, rfl, _⟩ := hr.intsM l0
    obtain ⟨b', o', rfl, _⟩ := hr'.intsM l1
    have := h3 i j _ _ b hij hu hu' rfl
    simp only [hu, hu']
    simp [Value.ownBlock] at this ⊢
    exact fun e => this e.symm
theorem IntRow.ri {w : World} {B cp : Nat} {A : Option Addr} {l : List Int} (h : IntRow w B (.slice A l.length cp) l) (hB : B ≤ w.heap.size) : RI w B w.heap.size A l := (h.intsM).reg hB

end Go.Proofs.YtlnikpjcggfdmaaGreat

/- Walks: the Jacobian in the program. -/
namespace Go.Proofs.YtlnikpjcggfdmaaGreat
open Go.RowKit Plain

/-- what a Jacobian comes to -/
def JacPost (P : List Fn) (g : Fn) (zs : List Int) (w : World) (e : Ending) (w' : World) : Prop :=
  Below w.heap.size w w' ∧ match evalR 1 P g.outs (ones zs) with
    | .err c => ∃ A cp, e = .returned (.tuple #[.slice A 0 cp, .int .i64 c])
    | .ok _ _ => ∃ A cp, e = .returned (.tuple #[.slice A g.outs.len cp, .int .i64 0]) ∧ Grow w' w.heap.size (.slice A g.outs.len cp) g.outs.len (jacRow P g zs)

theorem unitI_nil (n : Nat) (w : World) (hn : n ≤ 12) : Calls Tryz.prog 66 #[.int .i64 n, .slice none 0 0] w fun e w' => ∃ gu, e = .returned (.slice (some ⟨gu, 0, none⟩) n n) ∧ Ints w' (some ⟨gu, 0, none⟩) (unitL n []) ∧ Below w.heap.size w w' :=
  (unit_any n none 0 [] w (Ints.nil _ _) (fun p hp => by simp at hp) (by simp) (by omega)).mono fun e w' ⟨he, hC, hb⟩ => by
    rw [unitL_length] at he
    exact ⟨w.heap.size, he, (hC.intsM' (Nat.le_refl _)).ints, hb⟩
theorem unitI_one (n j : Nat) (w : World) (hn : n ≤ 12) (hj : j < n) (b : Nat) (hc : w.cell? ⟨b, 0, none⟩ = some (.int .i64 (j : Int))) : Calls Tryz.prog 66 #[.int .i64 n, .slice (some ⟨b, 0, none⟩) 1 1] w fun e w' => ∃ gu, e = .returned (.slice (some ⟨gu, 0, none⟩) n n) ∧ Ints w' (some ⟨gu, 0, none⟩) (unitL n [(j : Int)]) ∧ Below w.heap.size w w' := by
  have hI : Ints w (some ⟨b, 0, none⟩) [(j : Int)] := fun _ => ⟨b, 0, rfl, World.block_lt_of_cell? _ _ hc, fun i x hx => by
    match i, hx with
    | 0, hx => simp at hx; subst hx; exact hc⟩
  refine (unit_any n (some ⟨b, 0, none⟩) 1 [(j : Int)] w hI (fun p hp => by simp at hp; subst hp; omega) (by simp) (by omega)).mono fun e w' ⟨he, hC, hb⟩ => ?_
  rw [unitL_length] at he
  exact ⟨w.heap.size, he, (hC.intsM' (Nat.le_refl _)).ints, hb⟩

set_option maxRecDepth 100000 in
set_option maxHeartbeats 4000000 in
theorem jacobianI (P : List Fn) (m : Nat) (g : Fn) (PA : Option Addr) (pcap : Nat) (A : Option Addr) (cap : Nat) (zs : List Int) (w : World) (hP : ProgIn w P PA pcap) (hin : ArgIn P m g zs) (hA : Ints w A zs) :
    Calls Tryz.prog 37 #[prV PA P.length pcap, .int .i64 m, .slice A zs.length cap] w (JacPost P g zs w) := by
  obtain ⟨i0, hi, hz0, hz1, hz2⟩ := info_parts Tryz.infoI
  obtain ⟨i1, hi1, hy0, hy1, hy2⟩ := info_parts Tryz.infoIS
  have hz12 := hin.z12
  have ho12 := hin.fn.o12
  have HT : Hid (∀ wx D ps, Below w.heap.size w wx → Ints wx D (unitL zs.length ps) → ps.length ≤ 1000 → Calls Tryz.prog 65 #[prV PA P.length pcap, .int .i64 m, .slice A zs.length cap, .slice D zs.length zs.length] wx (DirPost (tayR 2 P g.outs zs (unitL zs.length ps)) wx)) := fun wx D ps hx hD hp => by
    have h := directionalI P m g PA pcap A D cap zs.length zs (unitL zs.length ps) wx (hP.below hx) hin (hA.below hx) hD (isS_unit hp) (unitL_length _ _)
    rw [unitL_length] at h
    exact h
  have HU0 : Hid (∀ wx, Calls Tryz.prog 66 #[.int .i64 zs.length, .slice none 0 0] wx fun e w' => ∃ gu, e = .returned (.slice (some ⟨gu, 0, none⟩) zs.length zs.length) ∧ Ints w' (some ⟨gu, 0, none⟩) (unitL zs.length []) ∧ Below wx.heap.size wx w') := fun wx => unitI_nil _ wx hz12
  have HU : Hid (∀ wx (j : Nat) b, j < zs.length → wx.cell? ⟨b, 0, none⟩ = some (.int .i64 (j : Int)) → Calls Tryz.prog 66 #[.int .i64 zs.length, .slice (some ⟨b, 0, none⟩) 1 1] wx fun e w' => ∃ gu, e = .returned (.slice (some ⟨gu, 0, none⟩) zs.length zs.length) ∧ Ints w' (some ⟨gu, 0, none⟩) (unitL zs.length [(j : Int)]) ∧ Below wx.heap.size wx w') := fun wx j b hj hc => unitI_one _ j wx hz12 hj b hc
  have hC0 : Cells (w.alloc (.cells #[.slice PA P.length pcap] 32)) w.heap.size 32 [.slice PA P.length pcap] := Cells.new w _ _
  have hB0 : Below w.heap.size w (w.alloc (.cells #[.slice PA P.length pcap] 32)) := by go_grown
  have hERR : ∀ c, evalR 1 P g.outs (ones zs) = .err c → c ≠ 0 := fun c h => evalR_err h
  have hLN : Hid (∀ (ps : List Int) zss t, tayR 2 P g.outs zs (unitL zs.length ps) = .ok zss t → zss.length = g.outs.len) := fun ps zss t h => evalR_len h
  obtain ⟨R, hR⟩ : ∃ R, R = evalR 1 P g.outs (ones zs) := ⟨_, rfl⟩
  obtain ⟨w1, hw1⟩ : ∃ w1, w1 = w.alloc (.cells #[.slice PA P.length pcap] 32) := ⟨_, rfl⟩
  rw [← hw1] at hC0 hB0
  rw [← hR] at hERR
  have a0 : w1.cell? ⟨w.heap.size, 0, none⟩ = some (.slice PA P.length pcap) := by rw [hC0.cell]; rfl
  have A0 := Lib.hid a0
  have Q2 := Lib.hid hB0
  have HW1 := Lib.hid hw1
  have al : w.heap.size < w1.heap.size := World.block_lt_of_cell? _ _ a0
  have HRR := Lib.hid hR
  unfold JacPost
  rw [← hR]
  clear hP hin hA hC0 hB0 hw1 hR
  cases R with
  | err c =>
    have hc := hERR c rfl
    have hc1 : (c == 0) = false := by simpa using hc
    have HTE : Hid (∀ wx D, Below w.heap.size w wx → Ints wx D (unitL zs.length []) → Calls Tryz.prog 65 #[prV PA P.length pcap, .int .i64 m, .slice A zs.length cap, .slice D zs.length zs.length] wx (DirPost (.err c) wx)) := fun wx D hx hD => by
      have h := HT.out wx D [] hx hD (by simp)
      rw [tay_err (by omega) HRR.out.symm] at h
      exact h
    clear hERR
    go_enter Tryz.func37, Tryz.ntmps37
    go_wp2_with fail
    rw [← HW1.out]
    go_region_held3 (fun wx => wx.cell? ⟨w.heap.size, 0, none⟩ = some (.slice PA P.length pcap))
      (first | exact A0.out | go_keep | exact keepC A0.out hb2 | exact keepC A0.out (hb2.trans (hb3.mono hb2.size)))
      (first
        | (go_at_call 65; have _tk := hI2; (with_reducible refine (HTE.out _ _ (Q2.out.trans (hb2.mono Q2.out.size)) hI2).mono ?_); rintro e w3 ⟨hb3, A', cp', A2, c2, rfl⟩)
        | (go_at_call 66; refine (HU0.out _).mono ?_; rintro e w2 ⟨gu, rfl, hI2, hb2'⟩; have hb2 : Below w1.heap.size w1 w2 := bnextG hb2' (by first | exact Below.refl _ _ | exact (Below.refl _ _).drew | exact below_drewN' (Below.refl _ _) _)))
    have HPF := Lib.hid (Q2.out.trans ((hb2.trans (hb3.mono hb2.size)).mono Q2.out.size))
    clear hb2' hb2 hb3 hI2 a0
    go_wp2
    go_ret2
    exact ⟨HPF.out, _, _, rfl⟩
  | ok vs t =>
    clear hERR
    have HTO : Hid (∀ ps : List Int, ∃ zss, tayR 2 P g.outs zs (unitL zs.length ps) = .ok zss t) := fun ps => tay_ok (n := 2) (by omega) HRR.out.symm (unitL zs.length ps)
    obtain ⟨zss0, e0⟩ := HTO.out []
    have hz0l := hLN.out [] zss0 t e0
    have HT0 : Hid (∀ wx D, Below w.heap.size w wx → Ints wx D (unitL zs.length []) → Calls Tryz.prog 65 #[prV PA P.length pcap, .int .i64 m, .slice A zs.length cap, .slice D zs.length zs.length] wx (DirPost (.ok zss0 t) wx)) := fun wx D hx hD => by
      have h := HT.out wx D [] hx hD (by simp)
      rw [e0] at h
      exact h
    obtain ⟨ol, hol⟩ : ∃ ol, ol = g.outs.len := ⟨_, rfl⟩
    rw [← hol] at ho12 hz0l
    obtain ⟨E, hE⟩ : ∃ E : Nat → Nat → Int, E = jacE P g zs := ⟨_, rfl⟩
    have HRW : Hid (jacRow P g zs = fun k => mk zs.length (E k)) := by show _ = _; rw [hE]; rfl
    have HTJ : Hid (∀ j : Nat, ∃ zss, zss.length = ol ∧ tayR 2 P g.outs zs (unitL zs.length [(j : Int)]) = .ok zss t ∧ ∀ k, k < ol → cf (colL 1 zss) k = E k j) := fun j => by
      obtain ⟨zss, e⟩ := HTO.out [(j : Int)]
      have hl := hLN.out _ zss t e
      refine ⟨zss, by omega, e, fun k hk => ?_⟩
      unfold colL
      rw [cf_mk (by omega), hE]
      unfold jacE
      rw [e]
      rfl
    rw [← hol, HRW.out]
    clear hol hE e0 HRW
    subst hz0l
    go_enter Tryz.func37, Tryz.ntmps37
    go_wp2_with fail
    rw [← HW1.out]
    go_region_held3 (fun wx => wx.cell? ⟨w.heap.size, 0, none⟩ = some (.slice PA P.length pcap))
      (first | exact A0.out | go_keep | exact keepC A0.out hb2 | exact keepC A0.out (hb2.trans (hb3.mono hb2.size)))
      (first
        | (go_at_call 65; have _tk := hI2; (with_reducible refine (HT0.out _ _ (Q2.out.trans (hb2.mono Q2.out.size)) hI2).mono ?_); rintro e w3 ⟨hb3, Ah, ch, As, cs, mm, rfl, _, _, _, _⟩)
        | (go_at_call 66; refine (HU0.out _).mono ?_; rintro e w2 ⟨gu, rfl, hI2, hb2'⟩; have hb2 : Below w1.heap.size w1 w2 := bnextG hb2' (by first | exact Below.refl _ _ | exact (Below.refl _ _).drew | exact below_drewN' (Below.refl _ _) _)))
    have HB3 := Lib.hid (Q2.out.trans ((hb2.trans (hb3.mono hb2.size)).mono Q2.out.size))
    have A3 := Lib.hid (keepC A0.out (hb2.trans (hb3.mono hb2.size)))
    clear hb2' hb2 hb3 hI2 a0 HT0 HU0
    obtain ⟨wo, rfl⟩ : ∃ wo : World, wo = w3 := ⟨_, rfl⟩
    go_wp2
    go_loopw [11, 35] (fun o i wr => ∃ (k : Nat) (Av : Option Addr) (cp : Nat), k ≤ zss0.length ∧ i = .int .i64 (k : Int) ∧ o = .slice Av k cp ∧ Hid (Grow wr wo.heap.size (.slice Av k cp) k (fun _ => [])) ∧ Hid (Below wo.heap.size wo wr)) (fun _ i _ => zss0.length - (intOf i).toNat)
    case atStart => exact ⟨0, _, _, by omega, by go_num, rfl, Grow.start wo _, by show Below _ _ _; go_grown⟩
    case round =>
      obtain ⟨k, Av, cp, hk, rfl, rfl, HG, HB⟩ := hrel
      by_cases hlt : k < zss0.length
      · have hkI : (k : Int) < (zss0.length : Int) := by omega
        obtain ⟨vs', _, hvs⟩ := HG.out.parts (Below.refl _ _)
        have HVS := Lib.hid hvs
        have HBw : Hid (wo.heap.size ≤ wr.heap.size) := HB.out.size
        clear hvs
        go_wp2_with (at_builtin; refine wpList_append_own _ rfl _ _ 27 rfl wo.heap.size 25 i1 (.slice none 0 0) 1 24 Tryz.underlying27 hi1 hy0 hy1 hy2 rfl (by decide) _ k _ rfl ((HVS.out.1.alloc _).alloc _) ⟨wr.heap.size + 1, 0, none⟩ 1 1 [.slice (some ⟨wr.heap.size, 0, none⟩) 0 0] rfl rfl ?c1 ?c2 ?c3 ?c4 ?c5 ?_)
        try (case c1 =>
          intro j u hj
          have hcc := Cells.new (wr.alloc (.cells #[] 2)) 25 [.slice (some ⟨wr.heap.size, 0, none⟩) 0 0]
          rw [show (wr.alloc (.cells #[] 2)).heap.size = wr.heap.size + 1 by simp] at hcc
          rw [addr_add, Nat.zero_add]
          exact (hcc.cell j).trans hj)
        try (case c2 => first | rfl | (intro u hu; simp at hu; subst hu; rfl))
        case c3 => unfold maxLen; omega
        case c4 => omega
        case c5 => have := HBw.out; simp; try omega
        intro v2 w2 hown hg _
        obtain ⟨⟨A2, c2, rfl⟩, hr2, hb2⟩ := HG.out.push (HB.out.size) rfl vs' HVS.out hown hg
        have HG2 := Lib.hid hr2
        have HB2 := Lib.hid (HB.out.trans hb2)
        clear hr2 hb2 hown hg HG HB HVS
        go_wp2
        go_roundw
        case rel => exact ⟨k + 1, A2, c2, by omega, by go_num, rfl, HG2.out, HB2.out⟩
        case measure => simp [intOf]; omega
      · obtain rfl : k = zss0.length := by omega
        obtain ⟨wp, rfl⟩ : ∃ wp : World, wp = wr := ⟨_, rfl⟩
        have HG0 : Hid (Grow wp wo.heap.size (.slice Av zss0.length cp) zss0.length (fun t => mk 0 (E t))) := HG.out
        clear HG
        go_wp2
        go_loopw [44] (fun i wr => ∃ j : Nat, j ≤ zs.length ∧ i = .int .i64 (j : Int) ∧ Hid (Grow wr wo.heap.size (.slice Av zss0.length cp) zss0.length (fun t => mk j (E t))) ∧ Hid (Below wo.heap.size wo wr)) (fun i _ => zs.length - (intOf i).toNat)
        case atStart => exact ⟨0, by omega, by go_num, HG0.out, HB.out⟩
        case round =>
          obtain ⟨j, hj, rfl, HGj, HBj⟩ := hrel
          by_cases hjl : j < zs.length
          · have hjI : (j : Int) < (zs.length : Int) := by omega
            obtain ⟨zss, hzl, ez, HEz0⟩ := HTJ.out j
            have HEz := Lib.hid HEz0
            have HZs := Lib.hid hzl
            have HTz : Hid (∀ wx D, Below w.heap.size w wx → Ints wx D (unitL zs.length [(j : Int)]) → Calls Tryz.prog 65 #[prV PA P.length pcap, .int .i64 m, .slice A zs.length cap, .slice D zs.length zs.length] wx (DirPost (.ok zss t) wx)) := fun wx D hx hD => by
              have h := HT.out wx D [(j : Int)] hx hD (by simp)
              rw [ez] at h
              exact h
            obtain ⟨wj, rfl⟩ : ∃ wj : World, wj = wr := ⟨_, rfl⟩
            have AJ := Lib.hid (keepC A3.out HBj.out)
            have QJ := Lib.hid (bnext HB3.out HBj.out)
            have alj : w.heap.size < wj.heap.size := World.block_lt_of_cell? _ _ AJ.out
            clear hzl ez HEz0
            have aj := AJ.out
            go_wp2_with fail
            go_region_held3 (fun wx => wx.cell? ⟨w.heap.size, 0, none⟩ = some (.slice PA P.length pcap))
              (first | exact AJ.out | go_keep | exact keepC AJ.out hb4 | exact keepC AJ.out (hb4.trans (hb5.mono hb4.size)))
              (first
                | (go_at_call 65; have _tk := hI4; (with_reducible refine (HTz.out _ _ (QJ.out.trans (hb4.mono QJ.out.size)) hI4).mono ?_); rintro e w5 ⟨hb5, Ah', ch', As', cs', mm', rfl, _, hS5, hm5, hm5'⟩)
                | (go_at_call 66; refine (HU.out _ j _ hjl (by first | exact newCell _ _ _ | simp)).mono ?_; rintro e w4 ⟨gu', rfl, hI4, hb4'⟩; have hb4 : Below wj.heap.size wj w4 := bnextG hb4' (by first | go_grown | exact ((Below.refl _ _).drew).alloc (Nat.le_refl _) _ | exact (below_drewN' (Below.refl _ _) _).alloc (Nat.le_refl _) _ | exact ((Below.refl _ _).alloc (Nat.le_refl _) _).drew | exact below_drewN' ((Below.refl _ _).alloc (Nat.le_refl _) _) _)))
            have HB5 := Lib.hid (hb4.trans (hb5.mono hb4.size))
            have HS5 := Lib.hid hS5
            have HM5 : Hid (wj.heap.size ≤ w4.heap.size ∧ w4.heap.size ≤ mm' ∧ mm' ≤ w5.heap.size) := ⟨hb4.size, hm5, hm5'⟩
            clear hb4' hb4 hb5 hI4 hS5 hm5 hm5' aj
            obtain ⟨X, hX⟩ : ∃ X : Nat → Prop, X = fun q => wj.heap.size ≤ q ∧ q < w5.heap.size := ⟨_, rfl⟩
            have HX := Lib.hid hX
            clear hX
            obtain ⟨g0, hA0⟩ : ∃ g0, 0 < zss0.length → Av = some ⟨g0, 0, none⟩ := by
              by_cases h0 : 0 < zss0.length
              · obtain ⟨g0, _, _, e, _⟩ := HGj.out.cell h0
                exact ⟨g0, fun _ => e⟩
              · exact ⟨0, fun h => absurd h h0⟩
            have HA0 := Lib.hid hA0
            clear hA0
            have HSI : Hid (Ints w5 As' (colL 1 zss)) := regInts HS5.out
            have HG5 : Hid (Grow w5 wo.heap.size (.slice Av zss0.length cp) zss0.length (fun s => mk (if s < 0 then j + 1 else j) (E s))) := by
              show Grow _ _ _ _ _
              simp only [Nat.not_lt_zero, if_false]
              exact HGj.out.below HB5.out
            have HBo5 : Hid (Below wo.heap.size wo w5) := bnext HBj.out HB5.out
            have HAV : Hid (Avoid w5 g0 zss0.length X) := by
              show Avoid _ _ _ _
              by_cases h0 : 0 < zss0.length
              · have h := HGj.out
                rw [HA0.out h0] at h
                exact h.avoid HB5.out (fun q hq => by rw [HX.out] at hq; exact hq.1)
              · exact fun i u q hi => by omega
            clear HSI
            go_wp2
            go_loopw [62] (fun i wr => ∃ k : Nat, k ≤ zss.length ∧ i = .int .i64 (k : Int) ∧ Hid (Grow wr wo.heap.size (.slice Av zss0.length cp) zss0.length (fun s => mk (if s < k then j + 1 else j) (E s))) ∧ Hid (Below wo.heap.size wo wr) ∧ Hid (Avoid wr g0 zss0.length X) ∧ Hid (RI wr w4.heap.size mm' As' (colL 1 zss)) ∧ Hid (w5.heap.size ≤ wr.heap.size)) (fun i _ => zss.length - (intOf i).toNat)
            case atStart => exact ⟨0, by omega, by go_num, HG5.out, HBo5.out, HAV.out, HS5.out, Nat.le_refl _⟩
            case round =>
              obtain ⟨k, hk, rfl, HGk, HBk, HAk, HSk, HLk⟩ := hrel
              by_cases hkl : k < zss.length
              · have hk0 : k < zss0.length := by have := HZs.out; omega
                obtain ⟨g1, Ak, ck, e1, hg1, hgl, gc, gz, hrk⟩ := HGk.out.cell hk0
                obtain ⟨b3, o3, rfl, hb3l, g3⟩ := ints_cf (k := k) (regInts HSk.out) (by rw [colL_length]; exact hkl)
                have e0 := HA0.out (by omega)
                rw [e1] at e0
                obtain rfl : g1 = g0 := by simpa using e0
                obtain ⟨g2, _, _, e2, _, hg2, _⟩ := HGj.out.cell hk0
                have hgw : Hid (g1 < wj.heap.size) := by
                  rw [e1] at e2
                  obtain rfl : g1 = g2 := by simpa using e2
                  exact hg2
                have hL : (mk (if k < k then j + 1 else j) (E k)).length = j := by simp [mk_length]
                have hRk : mk (if k < k then j + 1 else j) (E k) = mk j (E k) := by simp
                have HGc := Lib.hid gc
                have hx : cf (colL 1 zss) k = E k j := HEz.out k hk0
                rw [hx] at g3
                rw [hL] at gc
                have HRK : Hid (wr.ownsRow wo.heap.size 2 1 (.slice Ak j ck) j ((mk j (E k)).map (Value.int .i64))) := by
                  have h := hrk
                  rw [hL, hRk] at h
                  exact h.ownN (mk_length _ _).symm
                have HLL := Lib.hid hL
                have HRR2 := Lib.hid hRk
                have hkI : (k : Int) < (zss.length : Int) := by omega
                have hk0I : (k : Int) < (zss0.length : Int) := by omega
                have hkN : k < zss.length := hkl
                have hBl : wo.heap.size ≤ wr.heap.size := HBk.out.size
                subst e1
                obtain ⟨x, hxx⟩ : ∃ x, x = E k j := ⟨_, rfl⟩
                rw [← hxx] at g3
                have HXX := Lib.hid hxx
                clear hL hRk hrk hx hxx e0 e2 hg2
                go_wp2_with (at_builtin; go_loud (refine wpList_append_own2 _ rfl _ _ 25 rfl wo.heap.size 2 i0 (.int .i64 0) 1 8 Tryz.underlying25 hi hz0 hz1 hz2 rfl (by decide) _ j _ rfl (HRK.out.alloc _) ⟨wr.heap.size, 0, none⟩ 1 1 [.int .i64 x] rfl rfl ?d1 ?d2 ?d3 ?d4 ?d5 (by omega) ?_))
                try (case d1 => exact cell_one_new _ _ _)
                try (case d2 => first | rfl | (intro u hu; simp at hu; subst hu; rfl))
                case d3 => unfold maxLen; omega
                case d4 => omega
                case d5 => first | omega | (simp; omega)
                intro v2 w2 hown hg hw
                obtain ⟨gv, cv, hv, _, _⟩ := World.ownsRow.form hown (by omega)
                subst hv
                have hW : Below wr.heap.size wr (wr.alloc (.cells #[.int .i64 x] 2)) := by go_grown
                have hg' : (wr.alloc (.cells #[.int .i64 x] 2)).grownBy w2 (Value.slice Ak (mk (if k < k then j + 1 else j) (E k)).length ck).ownBlock := by rw [HLL.out]; exact hg
                have hw' : (Value.slice (some ⟨gv, 0, none⟩) (j + 1) cv).ownBlock = (Value.slice Ak (mk (if k < k then j + 1 else j) (E k)).length ck).ownBlock ∨ (Value.slice (some ⟨gv, 0, none⟩) (j + 1) cv).ownBlock = some (wr.alloc (.cells #[.int .i64 x] 2)).heap.size := by rw [HLL.out]; simpa using hw
                have hown' : w2.ownsRow wo.heap.size 2 1 (.slice (some ⟨gv, 0, none⟩) (j + 1) cv) ((mk (if k < k then j + 1 else j) (E k)).length + 1) ((mk (if k < k then j + 1 else j) (E k)).map (Value.int .i64) ++ [.int .i64 x]) := by rw [HLL.out, HRR2.out]; exact hown
                obtain ⟨s1, s2⟩ := HGk.out.slot hk0 hW HGc.out hg'
                obtain ⟨n1, n2, n3⟩ := HGk.out.grow (R' := fun s => mk (if s < k + 1 then j + 1 else j) (E s)) hk0 hBl hW HGc.out hown' hg' hw' (by
                  have := HXX.out
                  simp [mk_succ, this]) (fun i hi => by
                  have : (i < k + 1) ↔ (i < k) := by omega
                  simp only [this])
                have n4 := HAk.out.grow HGk.out hk0 hW HGc.out hg' hw' (fun q hq => by rw [HX.out] at hq; have := HLk.out; omega)
                have n5 := HSk.out.only n3 (fun q q1 q2 hq => by
                  have hm := HM5.out
                  have hXq : X q := by rw [HX.out]; omega
                  rcases hq with rfl | hq
                  · have := hgw.out; omega
                  · exact HAk.out k _ q hk0 HGc.out hq hXq)
                have N1 := Lib.hid n1
                have N2 := Lib.hid (HBk.out.trans n2)
                have N4 := Lib.hid n4
                have N5 := Lib.hid n5
                have N6 : Hid (w5.heap.size ≤ (w2.setCell ⟨g1, k, none⟩ (.slice (some ⟨gv, 0, none⟩) (j + 1) cv)).heap.size) := Nat.le_trans HLk.out n3.size
                clear n1 n2 n3 n4 n5 hg' hw' hown' hown hg hw hW HGk HBk HAk HSk HLk HRK g3
                go_wp2
                go_roundw
                case rel => exact ⟨k + 1, by omega, by go_num, N1.out, N2.out, N4.out, N5.out, N6.out⟩
                case measure => simp [intOf]; omega
              · obtain rfl : k = zss.length := by omega
                have HGf : Hid (Grow wr wo.heap.size (.slice Av zss0.length cp) zss0.length (fun s => mk (j + 1) (E s))) := HGk.out.congr fun i hi => by
                  have : i < zss.length := by have := HZs.out; omega
                  simp [this]
                clear HGk HAk HSk HS5 HX
                go_wp2
                go_roundw
                case rel => exact ⟨j + 1, by omega, by go_num, HGf.out, HBk.out⟩
                case measure => simp [intOf]; omega
          · obtain rfl : j = zs.length := by omega
            go_wp2
            go_ret2
            exact ⟨bnext HB3.out HBj.out, Av, cp, rfl, HGj.out.weaken HB3.out.size⟩

end Go.Proofs.YtlnikpjcggfdmaaGreat

/- Walks: the Jacobian in the spec. -/
namespace Go.Proofs.YtlnikpjcggfdmaaGreat
open Go.RowKit Plain

set_option maxRecDepth 100000 in
set_option maxHeartbeats 4000000 in
theorem jacobianS (P : List Fn) (m : Nat) (g : Fn) (A : Option Addr) (cap : Nat) (zs : List Int) (bp op B : Nat) (w : World) (hP : PrAt w B P bp op) (hB : B ≤ w.heap.size) (hin : ArgIn P m g zs) (hA : Ints w A zs) :
    Calls Tryz.prog 34 #[ptr bp op, .int .i64 m, .slice A zs.length cap] w (JacPost P g zs w) := by
  obtain ⟨i0, hi, hz0, hz1, hz2⟩ := info_parts Tryz.infoI
  obtain ⟨i1, hi1, hy0, hy1, hy2⟩ := info_parts Tryz.infoIS
  have hz12 := hin.z12
  have ho12 := hin.fn.o12
  have HEV := Lib.hid (evalS_any P m g A cap zs bp op B w hP hB hin.ok hin.fn hA hin.isS hin.len)
  have HT : Hid (∀ wx D (j : Nat), Below w.heap.size w wx → Ints wx D (unitL zs.length [(j : Int)]) → Calls Tryz.prog 62 #[ptr bp op, .int .i64 m, .slice A zs.length cap, .slice D zs.length zs.length, .int .i64 1] wx (RowsPost 2 (tayR 2 P g.outs zs (unitL zs.length [(j : Int)])) wx)) := fun wx D j hx hD => by
    have h := taylorS_any P m g 1 A D cap zs.length zs (unitL zs.length [(j : Int)]) bp op B wx (hP.below (hx.mono hB)) (Nat.le_trans hB hx.size) hin (hA.below hx) hD (isS_unit (by simp)) (unitL_length _ _) (by omega)
    rw [unitL_length] at h
    exact h
  have HU : Hid (∀ wx (j : Nat), j < zs.length → Calls Tryz.prog 63 #[.int .i64 zs.length, .int .i64 j] wx fun e w' => ∃ gu, e = .returned (.slice (some ⟨gu, 0, none⟩) zs.length zs.length) ∧ Ints w' (some ⟨gu, 0, none⟩) (unitL zs.length [(j : Int)]) ∧ Below wx.heap.size wx w') := fun wx j hj =>
    (unitS_any zs.length j wx hj (by omega)).mono fun e w' ⟨he, hC, hb⟩ => by
      rw [unitL_length] at he
      exact ⟨wx.heap.size, he, (hC.intsM' (Nat.le_refl _)).ints, hb⟩
  have hERR : ∀ c, evalR 1 P g.outs (ones zs) = .err c → c ≠ 0 := fun c h => evalR_err h
  have hLN : Hid (∀ (ps : List Int) zss t, tayR 2 P g.outs zs (unitL zs.length ps) = .ok zss t → zss.length = g.outs.len) := fun ps zss t h => evalR_len h
  have hLV : Hid (∀ zss t, evalR 1 P g.outs (ones zs) = .ok zss t → zss.length = g.outs.len) := fun zss t h => evalR_len h
  obtain ⟨R, hR⟩ : ∃ R, R = evalR 1 P g.outs (ones zs) := ⟨_, rfl⟩
  rw [← hR] at hERR HEV hLV
  have HRR := Lib.hid hR
  unfold JacPost
  rw [← hR]
  clear hP hin hA hR
  cases R with
  | err c =>
    have hc := hERR c rfl
    have hc1 : (c == 0) = false := by simpa using hc
    clear hERR
    go_enter Tryz.func34, Tryz.ntmps34
    go_wp2_with fail
    refine HEV.out.mono ?_; rintro e w1 ⟨hb1, zs1, A1, cp1, s1, c1, rfl, _, rfl, rfl, rfl⟩
    have HB1 := Lib.hid hb1
    clear hb1 HEV
    obtain ⟨wo, rfl⟩ : ∃ wo : World, wo = w1 := ⟨_, rfl⟩
    go_wp2
    go_loopw [12] (fun i wr => i = .int .i64 0 ∧ Hid (Below wo.heap.size wo wr)) (fun i _ => 0)
    case atStart => exact ⟨rfl, by show Below _ _ _; go_grown⟩
    case round =>
      obtain ⟨rfl, HB⟩ := hrel
      obtain ⟨wp, rfl⟩ : ∃ wp : World, wp = wr := ⟨_, rfl⟩
      go_wp2
      go_loopw [10, 13] (fun d i wr => i = .int .i64 0 ∧ d = .int .i64 c1 ∧ Hid (Below wo.heap.size wo wr)) (fun _ _ _ => 0)
      case atStart => exact ⟨rfl, rfl, HB.out⟩
      case round =>
        obtain ⟨rfl, rfl, HB⟩ := hrel
        by_cases hzl : (0 : Int) < (zs.length : Int)
        all_goals go_wp2
        all_goals go_ret2
        all_goals exact ⟨HB1.out.trans ((HB.out.trans ((show Below wr.heap.size wr (wr.alloc (.cells #[] 25)) by go_grown).mono HB.out.size)).mono HB1.out.size), _, _, rfl⟩
  | ok vs t =>
    clear hERR
    have HTO : Hid (∀ ps : List Int, ∃ zss, tayR 2 P g.outs zs (unitL zs.length ps) = .ok zss t) := fun ps => tay_ok (n := 2) (by omega) HRR.out.symm (unitL zs.length ps)
    have hvl := hLV.out vs t rfl
    obtain ⟨ol, hol⟩ : ∃ ol, ol = g.outs.len := ⟨_, rfl⟩
    rw [← hol] at ho12 hvl
    obtain ⟨E, hE⟩ : ∃ E : Nat → Nat → Int, E = jacE P g zs := ⟨_, rfl⟩
    have HRW : Hid (jacRow P g zs = fun k => mk zs.length (E k)) := by show _ = _; rw [hE]; rfl
    have HTJ : Hid (∀ j : Nat, ∃ zss, zss.length = ol ∧ tayR 2 P g.outs zs (unitL zs.length [(j : Int)]) = .ok zss t ∧ tot zss ≤ 1000 ∧ ∀ k, k < ol → cf (zss.getD k []) 1 = E k j) := fun j => by
      obtain ⟨zss, e⟩ := HTO.out [(j : Int)]
      have hl := hLN.out _ zss t e
      refine ⟨zss, by omega, e, ?_, fun k hk => ?_⟩
      · have h := tot_le (evalR_rows (lineL_rows 2 zs (unitL zs.length [(j : Int)]) zs.length) e)
        omega
      rw [hE]
      unfold jacE
      rw [e]
      rfl
    rw [← hol, HRW.out]
    clear hol hE HRW
    subst hvl
    go_enter Tryz.func34, Tryz.ntmps34
    go_wp2_with fail
    refine HEV.out.mono ?_; rintro e w1 ⟨hb1, zs1, A1, cp1, s1, c1, rfl, _, rfl, rfl, rfl⟩
    have HB1 := Lib.hid hb1
    clear hb1 HEV
    rw [heads_length]
    obtain ⟨wo, rfl⟩ : ∃ wo : World, wo = w1 := ⟨_, rfl⟩
    go_wp2
    go_loopw [11, 12] (fun o i wr => ∃ (k : Nat) (Av : Option Addr) (cp : Nat), k ≤ vs.length ∧ i = .int .i64 (k : Int) ∧ o = .slice Av k cp ∧ Hid (Grow wr wo.heap.size (.slice Av k cp) k (fun _ => [])) ∧ Hid (Below wo.heap.size wo wr)) (fun _ i _ => vs.length - (intOf i).toNat)
    case atStart => exact ⟨0, _, _, by omega, by go_num, rfl, Grow.start wo _, by show Below _ _ _; go_grown⟩
    case round =>
      obtain ⟨k, Av, cp, hk, rfl, rfl, HG, HB⟩ := hrel
      by_cases hlt : k < vs.length
      · have hkI : (k : Int) < (vs.length : Int) := by omega
        obtain ⟨vs', _, hvs⟩ := HG.out.parts (Below.refl _ _)
        have HVS := Lib.hid hvs
        have HBw : Hid (wo.heap.size ≤ wr.heap.size) := HB.out.size
        clear hvs
        go_wp2_with (at_builtin; refine wpList_append_own _ rfl _ _ 27 rfl wo.heap.size 25 i1 (.slice none 0 0) 1 24 Tryz.underlying27 hi1 hy0 hy1 hy2 rfl (by decide) _ k _ rfl ((HVS.out.1.alloc _).alloc _) ⟨wr.heap.size + 1, 0, none⟩ 1 1 [.slice (some ⟨wr.heap.size, 0, none⟩) 0 0] rfl rfl ?c1 ?c2 ?c3 ?c4 ?c5 ?_)
        try (case c1 =>
          intro j u hj
          have hcc := Cells.new (wr.alloc (.cells #[] 2)) 25 [.slice (some ⟨wr.heap.size, 0, none⟩) 0 0]
          rw [show (wr.alloc (.cells #[] 2)).heap.size = wr.heap.size + 1 by simp] at hcc
          rw [addr_add, Nat.zero_add]
          exact (hcc.cell j).trans hj)
        try (case c2 => first | rfl | (intro u hu; simp at hu; subst hu; rfl))
        case c3 => unfold maxLen; omega
        case c4 => omega
        case c5 => have := HBw.out; simp; try omega
        intro v2 w2 hown hg _
        obtain ⟨⟨A2, c2, rfl⟩, hr2, hb2⟩ := HG.out.push (HB.out.size) rfl vs' HVS.out hown hg
        have HG2 := Lib.hid hr2
        have HB2 := Lib.hid (HB.out.trans hb2)
        clear hr2 hb2 hown hg HG HB HVS
        go_wp2
        go_roundw
        case rel => exact ⟨k + 1, A2, c2, by omega, by go_num, rfl, HG2.out, HB2.out⟩
        case measure => simp [intOf]; omega
      · obtain rfl : k = vs.length := by omega
        obtain ⟨wp, rfl⟩ : ∃ wp : World, wp = wr := ⟨_, rfl⟩
        have HG0 : Hid (Grow wp wo.heap.size (.slice Av vs.length cp) vs.length (fun t => mk 0 (E t))) := HG.out
        clear HG
        go_wp2
        go_loopw [10, 13] (fun c i wr => ∃ j : Nat, j ≤ zs.length ∧ i = .int .i64 (j : Int) ∧ c = .int .i64 0 ∧ Hid (Grow wr wo.heap.size (.slice Av vs.length cp) vs.length (fun t => mk j (E t))) ∧ Hid (Below wo.heap.size wo wr)) (fun _ i _ => zs.length - (intOf i).toNat)
        case atStart => exact ⟨0, by omega, by go_num, rfl, HG0.out, HB.out⟩
        case round =>
          obtain ⟨j, hj, rfl, rfl, HGj, HBj⟩ := hrel
          by_cases hjl : j < zs.length
          · have hjI : (j : Int) < (zs.length : Int) := by omega
            obtain ⟨zss, hzl, ez, htz, HEz0⟩ := HTJ.out j
            have HEz := Lib.hid HEz0
            have HZs := Lib.hid hzl
            have HTz : Hid (∀ wx D, Below w.heap.size w wx → Ints wx D (unitL zs.length [(j : Int)]) → Calls Tryz.prog 62 #[ptr bp op, .int .i64 m, .slice A zs.length cap, .slice D zs.length zs.length, .int .i64 1] wx (RowsPost 2 (.ok zss t) wx)) := fun wx D hx hD => by
              have h := HT.out wx D j hx hD
              rw [ez] at h
              exact h
            obtain ⟨wj, rfl⟩ : ∃ wj : World, wj = wr := ⟨_, rfl⟩
            have QJ := Lib.hid (bnext HB1.out HBj.out)
            have hG0 : Hid (Below wj.heap.size wj (wj.alloc (.cells #[] 25))) := by show Below _ _ _; go_grown
            clear hzl ez HEz0
            go_wp2_with fail
            refine (HU.out _ j hjl).mono ?_; rintro e w4 ⟨gu, rfl, hI4, hb4⟩
            have HB4 := Lib.hid (bnext hG0.out hb4)
            have HI4 := Lib.hid hI4
            clear hI4 hb4
            go_wp2_with fail
            refine (HTz.out _ _ (bnext QJ.out HB4.out) HI4.out).mono ?_; rintro e w5 ⟨hb5, A5, cp5, rfl, hN5⟩
            have HB5 := Lib.hid (bnext HB4.out hb5)
            have HS5 := Lib.hid (hN5.reg hb5.size)
            have HL2 : Hid (∀ k, k < zss.length → (zss.getD k []).length = 2) := fun k hk => by
              have h0 : 0 < w4.heap.size := by have := HB4.out.size; have := HBj.out.size; have := HB1.out.size; have h5 := World.block_lt_of_cell? w4 _ (HI4.out.at_ (by rw [unitL_length]; omega : 0 < _)).choose_spec.choose_spec.choose_spec.2.2; omega
              obtain ⟨_, _, _, _, _, _, _, _, hz⟩ := (hN5.env (bv := 0) h0).sat hk
              exact hz.len
            have HM5 : Hid (wj.heap.size ≤ w4.heap.size ∧ w4.heap.size ≤ w5.heap.size) := ⟨HB4.out.size, hb5.size⟩
            obtain ⟨rhi, hrhi⟩ : ∃ rhi, rhi = w5.heap.size := ⟨_, rfl⟩
            have HRHI : Hid (rhi ≤ w5.heap.size) := by show _ ≤ _; omega
            rw [← hrhi] at HS5
            clear hb5 hN5 hrhi
            obtain ⟨X, hX⟩ : ∃ X : Nat → Prop, X = fun q => wj.heap.size ≤ q ∧ q < w5.heap.size := ⟨_, rfl⟩
            have HX := Lib.hid hX
            clear hX
            obtain ⟨g0, hA0⟩ : ∃ g0, 0 < vs.length → Av = some ⟨g0, 0, none⟩ := by
              by_cases h0 : 0 < vs.length
              · obtain ⟨g0, _, _, e, _⟩ := HGj.out.cell h0
                exact ⟨g0, fun _ => e⟩
              · exact ⟨0, fun h => absurd h h0⟩
            have HA0 := Lib.hid hA0
            clear hA0
            have HG5 : Hid (Grow w5 wo.heap.size (.slice Av vs.length cp) vs.length (fun s => mk (if s < 0 then j + 1 else j) (E s))) := by
              show Grow _ _ _ _ _
              simp only [Nat.not_lt_zero, if_false]
              exact HGj.out.below HB5.out
            have HBo5 : Hid (Below wo.heap.size wo w5) := bnext HBj.out HB5.out
            have HAV : Hid (Avoid w5 g0 vs.length X) := by
              show Avoid _ _ _ _
              by_cases h0 : 0 < vs.length
              · have h := HGj.out
                rw [HA0.out h0] at h
                exact h.avoid HB5.out (fun q hq => by rw [HX.out] at hq; exact hq.1)
              · exact fun i u q hi => by omega
            go_wp2
            go_loopw [15] (fun i wr => ∃ k : Nat, k ≤ zss.length ∧ i = .int .i64 (k : Int) ∧ Hid (Grow wr wo.heap.size (.slice Av vs.length cp) vs.length (fun s => mk (if s < k then j + 1 else j) (E s))) ∧ Hid (Below wo.heap.size wo wr) ∧ Hid (Avoid wr g0 vs.length X) ∧ Hid (RS wr w4.heap.size rhi A5 zss) ∧ Hid (w5.heap.size ≤ wr.heap.size)) (fun i _ => zss.length - (intOf i).toNat)
            case atStart => exact ⟨0, by omega, by go_num, HG5.out, HBo5.out, HAV.out, HS5.out, Nat.le_refl _⟩
            case round =>
              obtain ⟨k, hk, rfl, HGk, HBk, HAk, HSk, HLk⟩ := hrel
              by_cases hkl : k < zss.length
              · have hk0 : k < vs.length := by have := HZs.out; omega
                obtain ⟨g1, Ak, ck, e1, hg1, hgl, gc, gz, hrk⟩ := HGk.out.cell hk0
                have hRA := regRows HSk.out (by omega)
                obtain ⟨b3, o3, zr, Ai, ci, rfl, hb3, hzr, g3, hIr, _⟩ := hRA.at_ hkl
                have hgd : zss.getD k [] = zr := by simp [List.getD, hzr]
                have hzr2 : zr.length = 2 := by rw [← hgd]; exact HL2.out k hkl
                obtain ⟨b4, o4, rfl, hb4', g4⟩ := ints_cf (k := 1) hIr (by omega)
                rw [hzr2] at g3
                have e0 := HA0.out (by omega)
                rw [e1] at e0
                obtain rfl : g1 = g0 := by simpa using e0
                obtain ⟨g2, _, _, e2, _, hg2, _⟩ := HGj.out.cell hk0
                have hgw : Hid (g1 < wj.heap.size) := by
                  rw [e1] at e2
                  obtain rfl : g1 = g2 := by simpa using e2
                  exact hg2
                have hL : (mk (if k < k then j + 1 else j) (E k)).length = j := by simp [mk_length]
                have hRk : mk (if k < k then j + 1 else j) (E k) = mk j (E k) := by simp
                have HGc := Lib.hid gc
                have hx : cf zr 1 = E k j := by rw [← hgd]; exact HEz.out k hk0
                rw [hx] at g4
                rw [hL] at gc
                have HRK : Hid (wr.ownsRow wo.heap.size 2 1 (.slice Ak j ck) j ((mk j (E k)).map (Value.int .i64))) := by
                  have h := hrk
                  rw [hL, hRk] at h
                  exact h.ownN (mk_length _ _).symm
                have HLL := Lib.hid hL
                have HRR2 := Lib.hid hRk
                have hkI : (k : Int) < (zss.length : Int) := by omega
                have hk0I : (k : Int) < (vs.length : Int) := by omega
                have hkN : k < zss.length := hkl
                have hBl : wo.heap.size ≤ wr.heap.size := HBk.out.size
                subst e1
                obtain ⟨x, hxx⟩ : ∃ x, x = E k j := ⟨_, rfl⟩
                rw [← hxx] at g4
                have HXX := Lib.hid hxx
                clear hL hRk hrk hx hxx e0 e2 hg2 hgd hzr hzr2 hIr hRA
                have hW : Below wr.heap.size wr (wr.alloc (.cells #[.int .i64 x] 2)).drew := by go_grown
                have HRK1 : Hid ((wr.alloc (.cells #[.int .i64 x] 2)).drew.ownsRow wo.heap.size 2 1 (.slice Ak j ck) j ((mk j (E k)).map (Value.int .i64))) :=
                  ownsRow_keep HRK.out fun g hg => hW.block g (HRK.out.lt g hg).2
                have hN1 : Hid (∀ j u, [Value.int .i64 x][j]? = some u → (wr.alloc (.cells #[.int .i64 x] 2)).drew.cell? ((Addr.mk wr.heap.size 0 none).add j) = some u) := by
                  intro j u hj
                  have hc : Cells (wr.alloc (.cells #[.int .i64 x] 2)) wr.heap.size 2 [.int .i64 x] := Cells.new wr _ _
                  rw [addr_add, Nat.zero_add]
                  exact ((hc.drewN 1).cell j).trans hj
                have hO1 : Hid (∀ u ∈ [Value.int .i64 x], u.oneCell' = true) := by intro u hu; simp at hu; subst hu; rfl
                have HSL : Hid (∀ v2 w2, w2.ownsRow wo.heap.size 2 1 v2 (j + 1) ((mk j (E k)).map (Value.int .i64) ++ [.int .i64 x]) → (wr.alloc (.cells #[.int .i64 x] 2)).drew.grownBy w2 (Value.slice Ak j ck).ownBlock →
                    ∃ gv cv, v2 = .slice (some ⟨gv, 0, none⟩) (j + 1) cv ∧ w2.cell? ⟨g1, k, none⟩ = some (.slice Ak j ck) ∧ w2.frozen? ⟨g1, k, none⟩ = false) := fun v2 w2 hown hg => by
                  obtain ⟨gv, cv, hv, _, _⟩ := World.ownsRow.form hown (by omega)
                  obtain ⟨s1, s2⟩ := HGk.out.slot hk0 hW HGc.out (by rw [HLL.out]; exact hg)
                  rw [HLL.out] at s1
                  exact ⟨gv, cv, hv, s1, s2⟩
                have HW := Lib.hid hW
                clear hW
                go_wp2
                go_region_law (refine step_append_own2 rfl (.tmp 68) (.tmp 75) 25 rfl wo.heap.size 2 i0 (.int .i64 0) 1 8 Tryz.underlying25 hi hz0 hz1 hz2 rfl (by decide) (.slice Ak j ck) j _ (by simp [Act.eval]) HRK1.out ⟨wr.heap.size, 0, none⟩ 1 1 [.int .i64 x] (by simp [Act.eval]) rfl hN1.out hO1.out (by unfold maxLen; omega) (by omega) (by have := HW.out.size; omega) (by omega) ?_; intro v2 w2 hown hg hw; obtain ⟨gv, cv, rfl, s1, s2⟩ := HSL.out v2 w2 hown hg)
                all_goals
                  have hg' : (wr.alloc (.cells #[.int .i64 x] 2)).drew.grownBy w2 (Value.slice Ak (mk (if k < k then j + 1 else j) (E k)).length ck).ownBlock := by rw [HLL.out]; exact hg
                  have hw' : (Value.slice (some ⟨gv, 0, none⟩) (j + 1) cv).ownBlock = (Value.slice Ak (mk (if k < k then j + 1 else j) (E k)).length ck).ownBlock ∨ (Value.slice (some ⟨gv, 0, none⟩) (j + 1) cv).ownBlock = some (wr.alloc (.cells #[.int .i64 x] 2)).drew.heap.size := by rw [HLL.out]; exact hw
                  have hown' : w2.ownsRow wo.heap.size 2 1 (.slice (some ⟨gv, 0, none⟩) (j + 1) cv) ((mk (if k < k then j + 1 else j) (E k)).length + 1) ((mk (if k < k then j + 1 else j) (E k)).map (Value.int .i64) ++ [.int .i64 x]) := by rw [HLL.out, HRR2.out]; exact hown
                  obtain ⟨n1, n2, n3⟩ := HGk.out.grow (R' := fun s => mk (if s < k + 1 then j + 1 else j) (E s)) hk0 hBl HW.out HGc.out hown' hg' hw' (by
                    have := HXX.out
                    simp [mk_succ, this]) (fun i hi => by
                    have : (i < k + 1) ↔ (i < k) := by omega
                    simp only [this])
                  have n4 := HAk.out.grow HGk.out hk0 HW.out HGc.out hg' hw' (fun q hq => by rw [HX.out] at hq; have := HLk.out; omega)
                  have n5 := HSk.out.only n3 (fun q q1 q2 hq => by
                    have hm := HM5.out
                    have hr := HRHI.out
                    have hXq : X q := by rw [HX.out]; omega
                    rcases hq with rfl | hq
                    · have := hgw.out; omega
                    · exact HAk.out k _ q hk0 HGc.out hq hXq)
                  have N1 := Lib.hid n1
                  have N2 := Lib.hid (HBk.out.trans n2)
                  have N4 := Lib.hid n4
                  have N5 := Lib.hid n5
                  have N6 : Hid (w5.heap.size ≤ (w2.setCell ⟨g1, k, none⟩ (.slice (some ⟨gv, 0, none⟩) (j + 1) cv)).heap.size) := Nat.le_trans HLk.out n3.size
                  clear n1 n2 n3 n4 n5 hg' hw' hown' hown hg hw HW HGk HBk HAk HSk HLk HRK HRK1 hN1 hO1 HSL g3 g4 s1 s2
                  go_wp2
                  go_roundw
                  case rel => exact ⟨k + 1, by omega, by go_num, N1.out, N2.out, N4.out, N5.out, N6.out⟩
                  case measure => simp [intOf]; omega
              · obtain rfl : k = zss.length := by omega
                have HGf : Hid (Grow wr wo.heap.size (.slice Av vs.length cp) vs.length (fun s => mk (j + 1) (E s))) := HGk.out.congr fun i hi => by
                  have : i < zss.length := by have := HZs.out; omega
                  simp [this]
                clear HGk HAk HSk HS5 HX
                go_wp2
                go_roundw
                case rel => exact ⟨j + 1, by omega, by go_num, rfl, HGf.out, HBk.out⟩
                case measure => simp [intOf]; omega
          · obtain rfl : j = zs.length := by omega
            go_wp2
            go_ret2
            exact ⟨bnext HB1.out HBj.out, Av, cp, rfl, HGj.out.weaken HB1.out.size⟩

end Go.Proofs.YtlnikpjcggfdmaaGreat

/- Walks: JacobianOf of the spec and of the program. -/
namespace Go.Proofs.YtlnikpjcggfdmaaGreat
open Go.RowKit Plain

theorem JacPost.si {P : List Fn} {g : Fn} {zs : List Int} {w w1 w2 : World} {e : Ending} (hb : Below w.heap.size w w1) (h : JacPost P g zs w1 e w2) : RetSi (jacRes P g zs).1 (jacRes P g zs).2 w e w2 := by
  obtain ⟨hb2, h⟩ := h
  have hbb := bnext hb hb2
  unfold jacRes
  revert h
  cases evalR 1 P g.outs (ones zs) with
  | err c =>
    rintro ⟨A, cp, rfl⟩
    exact ⟨hbb, A, cp, rfl, rowsNil hbb.size⟩
  | ok vs t =>
    rintro ⟨A, cp, rfl, hG⟩
    refine ⟨hbb, A, cp, ?_, (hG.weaken hb.size).rs hbb.size⟩
    show _ = Ending.returned (.tuple #[.slice A (jacRows P g zs).length cp, .int .i64 0])
    rw [jacRows_length]
theorem JacPost.form {P : List Fn} {g : Fn} {zs : List Int} {w w' : World} {e : Ending} (h : JacPost P g zs w e w') : ∃ A n cp c, e = .returned (.tuple #[.slice A n cp, .int .i64 c]) := by
  obtain ⟨_, h⟩ := h
  revert h
  cases evalR 1 P g.outs (ones zs) with
  | err c => rintro ⟨A, cp, rfl⟩; exact ⟨_, _, _, _, rfl⟩
  | ok vs t => rintro ⟨A, cp, rfl, _⟩; exact ⟨_, _, _, _, rfl⟩

set_option maxHeartbeats 1000000 in
theorem jacobianOfI (P : List Fn) (f : Int) (zs : List Int) {PA : Option Addr} {pcap : Nat} {A : Option Addr} {cap : Nat} (w : World) (hP : ProgIn w P PA pcap) (hA : Ints w A zs) (hl : zs.length ≤ 1048576) :
    Calls Tryz.prog 12 #[prV PA P.length pcap, .int .i64 f, .slice A zs.length cap] w (RetSi (jacV P f zs).1 (jacV P f zs).2 w) := by
  have hg0 : Below w.heap.size w (w.alloc (.cells #[.slice PA P.length pcap] 32)) := by go_grown
  have HC := isLine_any P f zs zs (cap := cap) (dcap := cap) _ (hP.below hg0) (hA.below hg0) hl (hA.below hg0) hl
  rw [lineV_same] at HC
  have HC := Lib.hid HC
  have HP := Lib.hid hP
  by_cases hv : argV P f zs = 0
  · obtain ⟨_, m, g, rfl, hin⟩ := argV_zero hv
    rw [hv] at HC
    have HV : Hid (jacV P m zs = jacRes P g zs) := by
      show _ = _
      unfold jacV
      rw [if_pos hv]
      simp only [Int.toNat_natCast, hin.fn.fn]
    have HT : Hid (∀ wx, Below w.heap.size w wx → Calls Tryz.prog 37 #[prV PA P.length pcap, .int .i64 m, .slice A zs.length cap] wx (JacPost P g zs wx)) := fun wx hx =>
      jacobianI P m g PA pcap A cap zs wx (HP.out.below hx) hin (hA.below hx)
    rw [HV.out]
    clear hv hP hA hg0 hin
    go_enter Tryz.func12, Tryz.ntmps12
    go_wp2_with fail
    refine HC.out.mono ?_; rintro e w1 ⟨rfl, hb1⟩
    obtain ⟨q1, q2⟩ := prBox (C := [Value.slice PA P.length pcap]) hb1
    have Q2 := Lib.hid q2
    have a0 : w1.cell? ⟨w.heap.size, 0, none⟩ = some (.slice PA P.length pcap) := by rw [q1.cell]; rfl
    clear hb1 q1 q2
    go_wp2_with fail
    refine (HT.out _ Q2.out).mono ?_; rintro e w2 hp
    have hp2 := Lib.hid (hp.si Q2.out)
    obtain ⟨A', n', cp', c', rfl⟩ := hp.form
    clear hp
    go_wp2
    go_ret2
    exact hp2.out
  · have HV : Hid (jacV P f zs = ([], argV P f zs)) := by show _ = _; unfold jacV; rw [if_neg hv]
    rw [HV.out]
    generalize argV P f zs = V at *
    have hv1 : (V == 0) = false := by simpa using hv
    clear hP hA hg0
    go_enter Tryz.func12, Tryz.ntmps12
    go_wp2_with fail
    refine HC.out.mono ?_; rintro e w1 ⟨rfl, hb1⟩
    have Q2 := Lib.hid (prBox (C := [Value.slice PA P.length pcap]) hb1).2
    clear hb1
    go_wp2
    go_ret2
    exact ⟨Q2.out, _, _, rfl, rowsNil Q2.out.size⟩

set_option maxHeartbeats 1000000 in
theorem jacobianOfS (P : List Fn) (f : Int) (zs : List Int) {PA : Option Addr} {pcap : Nat} {A : Option Addr} {cap : Nat} (w : World) (hP : ProgIn w P PA pcap) (hA : Ints w A zs) (hl : zs.length ≤ 1048576) :
    Calls Tryz.prog 9 #[prV PA P.length pcap, .int .i64 f, .slice A zs.length cap] w (RetSi (jacV P f zs).1 (jacV P f zs).2 w) := by
  obtain ⟨hPr, hg⟩ := prBoxAt hP 32
  have HC := Lib.hid (argsS_any P f A cap zs w.heap.size 0 (w.heap.size + 1) _ hPr (by simp) hP.sz (hA.below hg) (by omega))
  have HG := Lib.hid hg
  by_cases hv : argV P f zs = 0
  · obtain ⟨_, m, g, rfl, hin⟩ := argV_zero hv
    rw [hv] at HC
    have HV : Hid (jacV P m zs = jacRes P g zs) := by
      show _ = _
      unfold jacV
      rw [if_pos hv]
      simp only [Int.toNat_natCast, hin.fn.fn]
    have HT : Hid (∀ wx, Below (w.heap.size + 1) (w.alloc (.cells #[.slice PA P.length pcap] 32)) wx → Calls Tryz.prog 34 #[ptr w.heap.size 0, .int .i64 m, .slice A zs.length cap] wx (JacPost P g zs wx)) := fun wx hx =>
      jacobianS P m g A cap zs w.heap.size 0 (w.heap.size + 1) wx (hPr.below hx) (by have := hx.size; simp at this; omega) hin ((hA.below hg).below (by simpa using hx))
    rw [HV.out]
    clear hv hPr hP hA hg hin
    go_enter Tryz.func9, Tryz.ntmps9
    go_wp2_with fail
    refine HC.out.mono ?_; rintro e w1 ⟨rfl, hb1⟩
    have HB := Lib.hid hb1
    clear hb1
    go_wp2_with fail
    refine (HT.out _ (HB.out.mono (by simp))).mono ?_; rintro e w2 hp
    have hp2 := Lib.hid (hp.si (HG.out.trans (HB.out.mono HG.out.size)))
    obtain ⟨A', n', cp', c', rfl⟩ := hp.form
    clear hp
    go_wp2
    go_ret2
    exact hp2.out
  · have HV : Hid (jacV P f zs = ([], argV P f zs)) := by show _ = _; unfold jacV; rw [if_neg hv]
    rw [HV.out]
    generalize argV P f zs = V at *
    have hv1 : (V == 0) = false := by simpa using hv
    clear hPr hP hA hg
    go_enter Tryz.func9, Tryz.ntmps9
    go_wp2_with fail
    refine HC.out.mono ?_; rintro e w1 ⟨rfl, hb1⟩
    have HB := Lib.hid hb1
    clear hb1
    go_wp2
    go_ret2
    have hb := HG.out.trans (HB.out.mono HG.out.size)
    have hb2 := hb.trans ((show Below w1.heap.size w1 (w1.alloc (.cells #[] 25)) by go_grown).mono hb.size)
    exact ⟨hb2, _, _, rfl, rowsNil hb2.size⟩

end Go.Proofs.YtlnikpjcggfdmaaGreat

/- Walks: GradientOf of the spec and of the program. -/
namespace Go.Proofs.YtlnikpjcggfdmaaGreat
open Go.RowKit Plain

theorem pickN {P : List Fn} {m : Nat} {g : Fn} {pk : Nat} {zs : List Int} (hin : ArgIn P m g zs) (h : inR (pk : Int) 0 (outsN P m - 1) = true) : pk < g.outs.len := by
  have h := (inR_true.1 h).2
  unfold outsN at h
  simp [hin.fn.fn] at h
  omega

set_option maxHeartbeats 1000000 in
theorem gradientOfI (P : List Fn) (f pick : Int) (zs : List Int) {PA : Option Addr} {pcap : Nat} {A : Option Addr} {cap : Nat} (w : World) (hP : ProgIn w P PA pcap) (hA : Ints w A zs) (hl : zs.length ≤ 1048576) :
    Calls Tryz.prog 21 #[prV PA P.length pcap, .int .i64 f, .int .i64 pick, .slice A zs.length cap] w (RetIi (gradV P f pick zs).1 (gradV P f pick zs).2 w) := by
  have hg0 : Below w.heap.size w (w.alloc (.cells #[.slice PA P.length pcap] 32)) := by go_grown
  have HC := Lib.hid (isPicked_any P f pick zs zs (cap := cap) (dcap := cap) _ (hP.below hg0) (hA.below hg0) hl (hA.below hg0) hl)
  have HP := Lib.hid hP
  by_cases hv : pickV P f pick zs zs = 0
  · have hpi := (pickV_zero hv).2
    obtain ⟨_, m, g, rfl, hin⟩ := argV_zero (lineV_zero (pickV_zero hv).1).1
    obtain ⟨pk, rfl⟩ := Int.eq_ofNat_of_zero_le (inR_true.1 hpi).1
    have hpk := pickN hin hpi
    rw [hv] at HC
    have HV : Hid (gradV P m pk zs = gradRes P g zs pk) := by
      show _ = _
      unfold gradV
      rw [if_pos hv]
      simp only [Int.toNat_natCast, hin.fn.fn]
    have HT : Hid (∀ wx, Below w.heap.size w wx → Calls Tryz.prog 37 #[prV PA P.length pcap, .int .i64 m, .slice A zs.length cap] wx (JacPost P g zs wx)) := fun wx hx =>
      jacobianI P m g PA pcap A cap zs wx (HP.out.below hx) hin (hA.below hx)
    have herr : ∀ c, evalR 1 P g.outs (ones zs) = .err c → c ≠ 0 := fun c h => evalR_err h
    rw [HV.out]
    clear hv hP hA hg0 hin hpi
    unfold JacPost at HT
    unfold gradRes
    generalize evalR 1 P g.outs (ones zs) = R at *
    cases R with
    | err c =>
      have hc := herr c rfl
      have hc1 : (c == 0) = false := by simpa using hc
      clear herr
      go_enter Tryz.func21, Tryz.ntmps21
      go_wp2_with fail
      refine HC.out.mono ?_; rintro e w1 ⟨rfl, hb1⟩
      obtain ⟨q1, q2⟩ := prBox (C := [Value.slice PA P.length pcap]) hb1
      have Q2 := Lib.hid q2
      have a0 : w1.cell? ⟨w.heap.size, 0, none⟩ = some (.slice PA P.length pcap) := by rw [q1.cell]; rfl
      clear hb1 q1 q2
      go_wp2_with fail
      refine (HT.out _ Q2.out).mono ?_; rintro e w2 ⟨hb2, A', cp', rfl⟩
      have HB2 := Lib.hid (bnext Q2.out hb2)
      clear hb2
      go_wp2
      go_ret2
      exact retIi_nil HB2.out
    | ok vs t =>
      clear herr
      go_enter Tryz.func21, Tryz.ntmps21
      go_wp2_with fail
      refine HC.out.mono ?_; rintro e w1 ⟨rfl, hb1⟩
      obtain ⟨q1, q2⟩ := prBox (C := [Value.slice PA P.length pcap]) hb1
      have Q2 := Lib.hid q2
      have a0 : w1.cell? ⟨w.heap.size, 0, none⟩ = some (.slice PA P.length pcap) := by rw [q1.cell]; rfl
      clear hb1 q1 q2
      go_wp2_with fail
      refine (HT.out _ Q2.out).mono ?_; rintro e w2 ⟨hb2, A', cp', rfl, hG⟩
      have HB2 := Lib.hid (bnext Q2.out hb2)
      obtain ⟨g1, Ak, ck, rfl, _, hgl, gc, _, hrk⟩ := hG.cell hpk
      have HRK := Lib.hid hrk
      have HS : Hid (w1.heap.size ≤ w2.heap.size) := hb2.size
      have hpI : (pk : Int) < (g.outs.len : Int) := by omega
      have HSW : Hid (w.heap.size ≤ w1.heap.size) := Q2.out.size
      clear hb2 hG hrk
      go_wp2
      go_ret2
      exact ⟨HB2.out, Ak, ck, rfl, riMono (w := w) (HRK.out.ri HS.out) HSW.out (Nat.le_refl _) rfl⟩
  · have HV : Hid (gradV P f pick zs = ([], pickV P f pick zs zs)) := by show _ = _; unfold gradV; rw [if_neg hv]
    rw [HV.out]
    generalize pickV P f pick zs zs = V at *
    have hv1 : (V == 0) = false := by simpa using hv
    clear hP hA hg0
    go_enter Tryz.func21, Tryz.ntmps21
    go_wp2_with fail
    refine HC.out.mono ?_; rintro e w1 ⟨rfl, hb1⟩
    have Q2 := Lib.hid (prBox (C := [Value.slice PA P.length pcap]) hb1).2
    clear hb1
    go_wp2
    go_ret2
    exact retIi_nil Q2.out

set_option maxHeartbeats 1000000 in
theorem gradientOfS (P : List Fn) (f pick : Int) (zs : List Int) {PA : Option Addr} {pcap : Nat} {A : Option Addr} {cap : Nat} (w : World) (hP : ProgIn w P PA pcap) (hA : Ints w A zs) (hl : zs.length ≤ 1048576) :
    Calls Tryz.prog 20 #[prV PA P.length pcap, .int .i64 f, .int .i64 pick, .slice A zs.length cap] w (RetIi (gradV P f pick zs).1 (gradV P f pick zs).2 w) := by
  obtain ⟨hPr, hg⟩ := prBoxAt hP 32
  have HC := Lib.hid (pickedS_any P f pick A A cap cap zs zs w.heap.size 0 (w.heap.size + 1) _ hPr (by simp) hP.sz (hA.below hg) (by omega) (hA.below hg) (by omega))
  have HG := Lib.hid hg
  by_cases hv : pickV P f pick zs zs = 0
  · have hpi := (pickV_zero hv).2
    obtain ⟨_, m, g, rfl, hin⟩ := argV_zero (lineV_zero (pickV_zero hv).1).1
    obtain ⟨pk, rfl⟩ := Int.eq_ofNat_of_zero_le (inR_true.1 hpi).1
    have hpk := pickN hin hpi
    rw [hv] at HC
    have HV : Hid (gradV P m pk zs = gradRes P g zs pk) := by
      show _ = _
      unfold gradV
      rw [if_pos hv]
      simp only [Int.toNat_natCast, hin.fn.fn]
    have HT : Hid (∀ wx, Below (w.heap.size + 1) (w.alloc (.cells #[.slice PA P.length pcap] 32)) wx → Calls Tryz.prog 34 #[ptr w.heap.size 0, .int .i64 m, .slice A zs.length cap] wx (JacPost P g zs wx)) := fun wx hx =>
      jacobianS P m g A cap zs w.heap.size 0 (w.heap.size + 1) wx (hPr.below hx) (by have := hx.size; simp at this; omega) hin ((hA.below hg).below (by simpa using hx))
    have herr : ∀ c, evalR 1 P g.outs (ones zs) = .err c → c ≠ 0 := fun c h => evalR_err h
    rw [HV.out]
    clear hv hPr hP hA hg hin hpi
    unfold JacPost at HT
    unfold gradRes
    generalize evalR 1 P g.outs (ones zs) = R at *
    cases R with
    | err c =>
      have hc := herr c rfl
      have hc1 : (c == 0) = false := by simpa using hc
      clear herr
      go_enter Tryz.func20, Tryz.ntmps20
      go_wp2_with fail
      refine HC.out.mono ?_; rintro e w1 ⟨rfl, hb1⟩
      have HB := Lib.hid hb1
      clear hb1
      go_wp2_with fail
      refine (HT.out _ (HB.out.mono (by simp))).mono ?_; rintro e w2 ⟨hb2, A', cp', rfl⟩
      have HB2 := Lib.hid (bnext (HG.out.trans (HB.out.mono HG.out.size)) hb2)
      clear hb2
      go_wp2
      go_ret2
      exact retIi_nil (HB2.out.trans ((show Below w2.heap.size w2 (w2.alloc (.cells #[] 2)) by go_grown).mono HB2.out.size))
    | ok vs t =>
      clear herr
      go_enter Tryz.func20, Tryz.ntmps20
      go_wp2_with fail
      refine HC.out.mono ?_; rintro e w1 ⟨rfl, hb1⟩
      have HB := Lib.hid hb1
      clear hb1
      go_wp2_with fail
      refine (HT.out _ (HB.out.mono (by simp))).mono ?_; rintro e w2 ⟨hb2, A', cp', rfl, hG⟩
      have Q2 := Lib.hid (HG.out.trans (HB.out.mono HG.out.size))
      have HB2 := Lib.hid (bnext Q2.out hb2)
      obtain ⟨g1, Ak, ck, rfl, _, hgl, gc, _, hrk⟩ := hG.cell hpk
      have HRK := Lib.hid hrk
      have HS : Hid (w1.heap.size ≤ w2.heap.size) := hb2.size
      have hpI : (pk : Int) < (g.outs.len : Int) := by omega
      have HSW : Hid (w.heap.size ≤ w1.heap.size) := Q2.out.size
      clear hb2 hG hrk
      go_wp2
      go_ret2
      exact ⟨HB2.out, Ak, ck, rfl, riMono (w := w) (HRK.out.ri HS.out) HSW.out (Nat.le_refl _) rfl⟩
  · have HV : Hid (gradV P f pick zs = ([], pickV P f pick zs zs)) := by show _ = _; unfold gradV; rw [if_neg hv]
    rw [HV.out]
    generalize pickV P f pick zs zs = V at *
    have hv1 : (V == 0) = false := by simpa using hv
    clear hPr hP hA hg
    go_enter Tryz.func20, Tryz.ntmps20
    go_wp2_with fail
    refine HC.out.mono ?_; rintro e w1 ⟨rfl, hb1⟩
    have HB := Lib.hid (HG.out.trans (hb1.mono HG.out.size))
    clear hb1
    go_wp2
    go_ret2
    exact retIi_nil (HB.out.trans ((show Below w1.heap.size w1 (w1.alloc (.cells #[] 2)) by go_grown).mono HB.out.size))

end Go.Proofs.YtlnikpjcggfdmaaGreat
