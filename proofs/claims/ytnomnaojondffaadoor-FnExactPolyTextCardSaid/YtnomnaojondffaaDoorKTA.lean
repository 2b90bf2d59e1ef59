/- Texts put together: PText, WText1. -/
import Derived.Test.YtnomnaojondffaaDoorKX
import Derived.Lib.ItoaNum
import Derived.Lib.Join
import Derived.Test.YtnomnaojondffaaDoorKP
import Derived.Laws.BytesArg
import Derived.Deep.RegionHeld3

/- Texts of polynomials, plainly. No program here. -/
namespace Go.Proofs.YtnomnaojondffaaDoor
open Plain

/-- a numeral -/
def decB (n : Nat) : ByteArray := ⟨(Go.Lib.decDigits n).toArray⟩
theorem dec_small {n : Nat} (h : n < 10) : Go.Lib.decDigits n = [UInt8.ofNat (48 + n)] := by rw [Go.Lib.decDigits, dif_pos h]
theorem dec_big {n : Nat} (h : ¬ n < 10) : Go.Lib.decDigits n = Go.Lib.decDigits (n / 10) ++ [UInt8.ofNat (48 + n % 10)] := by rw [Go.Lib.decDigits, dif_neg h]
theorem dec_len (k : Nat) : ∀ n, n < 10 ^ (k + 1) → (Go.Lib.decDigits n).length ≤ k + 1 ∧ 0 < (Go.Lib.decDigits n).length := by
  induction k with
  | zero => intro n h; rw [dec_small (by omega)]; simp
  | succ k ih =>
    intro n h
    by_cases h10 : n < 10
    · rw [dec_small h10]; simp
    · have := ih (n / 10) (by rw [Nat.pow_succ] at h; omega)
      rw [dec_big h10]
      simp only [List.length_append, List.length_singleton]
      omega
theorem decB_size {n : Nat} (h : n < 10000000) : (decB n).size ≤ 7 ∧ 0 < (decB n).size := by
  have := dec_len 6 n h
  have e : (decB n).size = (Go.Lib.decDigits n).length := by simp [decB, ByteArray.size]
  omega
theorem decB_size9 {n : Nat} (h : n < 10000000000) : (decB n).size ≤ 10 := by
  have := dec_len 9 n h
  have e : (decB n).size = (Go.Lib.decDigits n).length := by simp [decB, ByteArray.size]
  omega
theorem mkB_append (a b : List UInt8) : (⟨a.toArray⟩ : ByteArray) ++ ⟨b.toArray⟩ = ⟨(a ++ b).toArray⟩ := by
  apply ByteArray.ext
  simp [ByteArray.data_append]
/-- a term's text, its first k variables -/
def termB (c : Int) (es : List Int) : Nat → ByteArray
  | 0 => decB c.toNat
  | k + 1 => if 0 < cf es k then termB c es k ++ (((⟨#[42, 120]⟩ ++ decB k) ++ ⟨#[94]⟩) ++ decB (cf es k).toNat) else termB c es k
theorem termB_size {c : Int} {es : List Int} (h0 : 0 ≤ c) (h1 : c ≤ 1000002) (he : expsOk es = true) (k : Nat) (hk : k ≤ 12) : (termB c es k).size ≤ 7 + 17 * k ∧ 0 < (termB c es k).size := by
  induction k with
  | zero => have := decB_size (n := c.toNat) (by omega); simpa [termB] using this
  | succ k ih =>
    have ih := ih (by omega)
    have hb := expsOk_bd he k
    unfold termB
    split
    · have d1 := decB_size (n := k) (by omega)
      have d2 := decB_size (n := (cf es k).toNat) (by omega)
      simp only [ByteArray.size_append]
      have e1 : (⟨#[42, 120]⟩ : ByteArray).size = 2 := rfl
      have e2 : (⟨#[94]⟩ : ByteArray).size = 1 := rfl
      omega
    · omega
def tmB (t : Term') : ByteArray := termB t.2 t.1 t.1.length
/-- the first k terms' texts -/
def outB (ts : List Term') : Nat → ByteArray
  | 0 => ⟨#[]⟩
  | k + 1 => if k = 0 then tmB (tmAt ts 0) else (outB ts k ++ ⟨#[32, 43, 32]⟩) ++ tmB (tmAt ts k)
/-- a polynomial's text -/
def polyB (v : Int) (ts : List Term') : ByteArray := if polyOk v ts = true then (if ts.length = 0 then ⟨#[48]⟩ else outB ts ts.length) else ⟨#[]⟩
theorem tmB_size {v : Int} {ts : List Term'} (h : polyOk v ts = true) {k : Nat} (hk : k < ts.length) : (tmB (tmAt ts k)).size ≤ 211 ∧ 0 < (tmB (tmAt ts k)).size := by
  have hp := termOk_parts (polyOk_term h hk)
  have hv := polyOk_size h
  have := termB_size (c := (tmAt ts k).2) (es := (tmAt ts k).1) (by omega) hp.2.2.1 hp.2.2.2.1 (tmAt ts k).1.length (by omega)
  unfold tmB
  omega
theorem outB_size {v : Int} {ts : List Term'} (h : polyOk v ts = true) (k : Nat) (hk : k ≤ ts.length) : (outB ts k).size ≤ 214 * k ∧ (0 < k → 0 < (outB ts k).size) := by
  induction k with
  | zero => simp [outB]; rfl
  | succ k ih =>
    have ih := ih (by omega)
    have ht := tmB_size h (show k < ts.length by omega)
    unfold outB
    split
    · rename_i hk0; subst hk0; omega
    · simp only [ByteArray.size_append]
      have e1 : (⟨#[32, 43, 32]⟩ : ByteArray).size = 3 := rfl
      omega
theorem join_snoc (xs : List (List UInt8)) (y sep : List UInt8) (h : xs ≠ []) : Go.Lib.join (xs ++ [y]) sep = (Go.Lib.join xs sep ++ sep) ++ y := by
  cases xs with
  | nil => exact absurd rfl h
  | cons x r => rw [List.cons_append, Go.Lib.join_cons, Go.Lib.join_cons]; simp [Go.Lib.joinTail]
theorem mkB_data (s : ByteArray) : (⟨s.data.toList.toArray⟩ : ByteArray) = s := by simp
theorem outB_join (ts : List Term') (k : Nat) (hk : k ≤ ts.length) : outB ts k = ⟨(Go.Lib.join ((ts.take k).map fun t => (tmB t).data.toList) [32, 43, 32]).toArray⟩ := by
  induction k with
  | zero => simp [outB, Go.Lib.join_nil]
  | succ k ih =>
    have hlt : k < ts.length := by omega
    have ht : ts.take (k + 1) = ts.take k ++ [tmAt ts k] := by
      rw [List.take_add_one, List.getElem?_eq_getElem hlt]
      simp [tmAt, List.getD, hlt]
    unfold outB
    split
    · rename_i h0
      subst h0
      rw [ht]
      simp [Go.Lib.join_one]
    · rename_i h0
      have hne : ((ts.take k).map fun t => (tmB t).data.toList) ≠ [] := by
        intro h
        have h2 := congrArg List.length h
        rw [List.length_map, List.length_take, List.length_nil] at h2
        omega
      rw [ht, List.map_append, List.map_singleton, join_snoc _ _ _ hne, ih (by omega), ← mkB_append, ← mkB_append, mkB_data]
end Go.Proofs.YtnomnaojondffaaDoor

/- Walks: numerals and texts of terms, in the spec. -/
namespace Go.Proofs.YtnomnaojondffaaDoor
open Go.RowKit Plain

theorem cellNew1 (w : World) (t : TypeId) (v : Value) : (w.alloc (.cells #[v] t)).cell? ⟨w.heap.size, 0, none⟩ = some v := by simp
theorem allocLt (w : World) (o : Obj) : w.heap.size < (w.alloc o).heap.size := by simp

set_option maxRecDepth 100000 in
set_option maxHeartbeats 1000000 in
theorem decS_any : ∀ (m : Nat) (a : Int) (w : World), 0 ≤ a → a.toNat < m → a ≤ 1000000000 →
    Calls Tryd.prog 27 #[.int .i64 a] w fun e w' => e = .returned (.string (decB a.toNat)) ∧ Below w.heap.size w w' := by
  intro m
  induction m with
  | zero => intro a w _ h; omega
  | succ m ih =>
  intro a w a0 hm a1
  by_cases h10 : a < 10
  · have kc : (convert 91 9 (.slice (some ⟨w.heap.size, 0, none⟩) 1 1)).run Tryd.prog (w.alloc (.cells #[.int .u8 (48 + a)] 5)) = .ok (.string (strOfNums [48 + a])) (w.alloc (.cells #[.int .u8 (48 + a)] 5)) :=
      run_convert_bytes_arg _ 91 5 Tryd.underlying91 Tryd.underlying5 w.heap.size 0 1 1 [48 + a] rfl (fun i hi => by
        have h0 : i = 0 := by omega
        subst h0
        show _ = some (Value.int .u8 (48 + a))
        simp) 9 Tryd.underlying9
    have HD : Hid (strOfNums [48 + a] = decB a.toNat) := by
      show _ = _
      unfold strOfNums decB
      rw [dec_small (by omega), List.map_singleton, show (48 + a).toNat = 48 + a.toNat by omega]
    go_enter Tryd.func27, Tryd.ntmps27
    go_wp2
    all_goals
      go_ret
      exact ⟨by rw [HD.out]; rfl, by go_grown⟩
  · obtain ⟨d, hd⟩ : ∃ d, d = 48 + a % 10 := ⟨_, rfl⟩
    obtain ⟨q, hq⟩ : ∃ q, q = a / 10 := ⟨_, rfl⟩
    have e1 : IntKind.i64.wrap (a.tdiv 10) = q := by
      rw [Int.tdiv_eq_ediv_of_nonneg a0, IntKind.wrap_i64, hq]; omega
    have e2 : IntKind.u8.wrap (IntKind.i64.wrap (48 + a.tmod 10)) = d := by
      rw [Int.tmod_eq_emod_of_nonneg a0, IntKind.wrap_u8, IntKind.wrap_i64, hd]
      omega
    have kcx : Hid (∀ (W : World) (b : Nat), W.cell? ⟨b, 0, none⟩ = some (.int .u8 d) → (convert 91 9 (.slice (some ⟨b, 0, none⟩) 1 1)).run Tryd.prog W = .ok (.string (strOfNums [d])) W) := fun W b hc =>
      run_convert_bytes_arg _ 91 5 Tryd.underlying91 Tryd.underlying5 b 0 1 1 [d] rfl (fun i hi => by
        have h0 : i = 0 := by omega
        subst h0
        exact hc) 9 Tryd.underlying9
    have kc : ∀ wx : World, (convert 91 9 (.slice (some ⟨wx.heap.size, 0, none⟩) 1 1)).run Tryd.prog (wx.alloc (.cells #[.int .u8 d] 5)) = .ok (.string (strOfNums [d])) (wx.alloc (.cells #[.int .u8 d] 5)) := fun wx =>
      kcx.out _ _ (by simp)
    have kcd : ∀ wx : World, (convert 91 9 (.slice (some ⟨wx.heap.size, 0, none⟩) 1 1)).run Tryd.prog (wx.alloc (.cells #[.int .u8 d] 5)).drew = .ok (.string (strOfNums [d])) (wx.alloc (.cells #[.int .u8 d] 5)).drew := fun wx => kcx.out _ _ (by show World.cell? (wx.alloc _) _ = _; simp)
    have kcn : ∀ (wx : World) (n : Nat), (convert 91 9 (.slice (some ⟨wx.heap.size, 0, none⟩) 1 1)).run Tryd.prog ((wx.alloc (.cells #[.int .u8 d] 5)).drewN n) = .ok (.string (strOfNums [d])) ((wx.alloc (.cells #[.int .u8 d] 5)).drewN n) := fun wx n => kcx.out _ _ (by show World.cell? (wx.alloc _) _ = _; simp)
    have kz : (strOfNums [d]).size = 1 := rfl
    have HC : Hid (∀ wx, Calls Tryd.prog 27 #[.int .i64 q] wx fun e w' => e = .returned (.string (decB q.toNat)) ∧ Below wx.heap.size wx w') := fun wx => ih q wx (by omega) (by omega) (by omega)
    have hs := decB_size9 (n := q.toNat) (by omega)
    have HD : Hid (decB q.toNat ++ strOfNums [d] = decB a.toNat) := by
      show _ = _
      unfold strOfNums decB
      rw [dec_big (n := a.toNat) (by omega), mkB_append, List.map_singleton, show d.toNat = 48 + a.toNat % 10 by omega, show q.toNat = a.toNat / 10 by omega]
    generalize decB q.toNat = s at *
    clear ih hd hq
    go_enter Tryd.func27, Tryd.ntmps27
    go_wp2
    go_region_with (go_at_call 27; refine (HC.out _).mono ?_; rintro e w1 ⟨rfl, hb1⟩; first | (have hcell : w1.cell? ⟨w.heap.size, 0, none⟩ = some (.int .u8 d) := (hb1.cell (p := ⟨w.heap.size, 0, none⟩) (allocLt w (.cells #[.int .u8 d] 5))).trans (cellNew1 w 5 (.int .u8 d)); have kc1 := kcx.out w1 w.heap.size hcell) | skip)
    all_goals
      have hb1' : Below w.heap.size w w1 := by first | exact bdrew hb1 | exact bdrewN hb1 | exact hb1 | exact bnext (by go_grown) hb1
      go_wp2
      go_ret
      exact ⟨by rw [HD.out]; rfl, by first | exact hb1' | exact bnext hb1' (by go_grown; done) | exact below_drewN' hb1' _ | exact hb1'.drew⟩

set_option maxRecDepth 100000 in
set_option maxHeartbeats 1000000 in
theorem termTextS_any (b o : Nat) (c : Int) (es : List Int) (Ai : Option Addr) (cap : Nat) (w : World) (h0 : w.cell? ⟨b, o, none⟩ = some (.slice Ai es.length cap)) (h1 : w.cell? ⟨b, o + 1, none⟩ = some (.int .i64 c)) (hI : Ints w Ai es) (hok : expsOk es = true) (hm : es.length ≤ 12) (c0 : 0 ≤ c) (c1 : c ≤ 1000002) :
    Calls Tryd.prog 19 #[ptr b o] w fun e w' => e = .returned (.string (termB c es es.length)) ∧ Below w.heap.size w w' := by
  have HI := Lib.hid hI; clear hI
  have HOK := Lib.hid hok; clear hok
  have hbl := World.block_lt_of_cell? _ _ h0
  simp only at hbl
  have HC0 := Lib.hid (decS_any (c.toNat + 1) c w c0 (by omega) (by omega))
  have H0 : Hid (decB c.toNat = termB c es 0) := rfl
  go_enter Tryd.func19, Tryd.ntmps19
  go_wp2_with fail
  refine HC0.out.mono ?_; rintro e w1 ⟨rfl, hb1⟩
  rw [H0.out]
  have HB1 := Lib.hid hb1
  clear hb1
  go_wp2
  go_loopw [3, 4] (fun t i wr => ∃ (k : Nat), k ≤ es.length ∧ i = .int .i64 (k : Int) ∧ t = .string (termB c es k) ∧ Hid (Below w.heap.size w wr)) (fun _ i _ => es.length - (intOf i).toNat)
  case atStart => exact ⟨0, by omega, by go_num, rfl, HB1.out⟩
  case round =>
    obtain ⟨k, hk, rfl, rfl, HB⟩ := hrel
    have h0' : wr.cell? ⟨b, o, none⟩ = some (.slice Ai es.length cap) := (HB.out.cell (p := ⟨b, _, none⟩) hbl).trans h0
    have hsz := (termB_size c0 c1 HOK.out k (by omega)).1
    have hsz2 : (termB c es k).size ≤ 300 := by omega
    clear hsz
    by_cases hlt : k < es.length
    · obtain ⟨ba, oa, rfl, hba, hca⟩ := (HI.out.below HB.out).cfAt (by omega)
      have hc1 := hca k hlt
      have hkl : (k : Int) < (es.length : Int) := by omega
      have heb := expsOk_bd HOK.out k
      have heb1 := heb.2
      have HT : Hid (termB c es (k + 1) = if 0 < cf es k then termB c es k ++ (((⟨#[42, 120]⟩ ++ decB k) ++ ⟨#[94]⟩) ++ decB (cf es k).toNat) else termB c es k) := rfl
      obtain ⟨x, hx⟩ : ∃ x, x = cf es k := ⟨_, rfl⟩
      rw [← hx] at hc1 HT heb1
      obtain ⟨s, hs⟩ : ∃ s, s = termB c es k := ⟨_, rfl⟩
      rw [← hs] at HT hsz2 ⊢
      clear hca heb hx hs
      by_cases hx0 : 0 < x
      · have HT2 : Hid (termB c es (k + 1) = s ++ (((⟨#[42, 120]⟩ ++ decB k) ++ ⟨#[94]⟩) ++ decB x.toNat)) := by show _ = _; rw [HT.out, if_pos hx0]
        have HD1 : Hid (∀ wx, Calls Tryd.prog 27 #[.int .i64 (k : Int)] wx fun e w' => e = .returned (.string (decB k)) ∧ Below wx.heap.size wx w') := fun wx => by
          have := decS_any (k + 1) k wx (by omega) (by omega) (by omega)
          rwa [Int.toNat_natCast] at this
        have HD2 : Hid (∀ wx, Calls Tryd.prog 27 #[.int .i64 x] wx fun e w' => e = .returned (.string (decB x.toNat)) ∧ Below wx.heap.size wx w') := fun wx =>
          decS_any (x.toNat + 1) x wx (by omega) (by omega) (by omega)
        have z1 := decB_size9 (n := k) (by omega)
        have z2 := decB_size9 (n := x.toNat) (by omega)
        generalize decB k = d1 at *
        generalize decB x.toNat = d2 at *
        clear HT
        have ez1 : (⟨#[42, 120]⟩ : ByteArray).size = 2 := rfl
        have ez2 : (⟨#[94]⟩ : ByteArray).size = 1 := rfl
        have r1 : ∀ wx : World, (Op.stringOp .add (⟨#[42, 120]⟩ : ByteArray) d1).run Tryd.prog wx = .ok (.string ((⟨#[42, 120]⟩ : ByteArray) ++ d1)) wx := fun wx => run_string_add_sum _ _ _ (by omega)
        have r2 : ∀ wx : World, (Op.stringOp .add ((⟨#[42, 120]⟩ : ByteArray) ++ d1) (⟨#[94]⟩ : ByteArray)).run Tryd.prog wx = .ok (.string (((⟨#[42, 120]⟩ : ByteArray) ++ d1) ++ ⟨#[94]⟩)) wx := fun wx => run_string_add_sum _ _ _ (by simp only [ByteArray.size_append]; omega)
        have r3 : ∀ wx : World, (Op.stringOp .add (((⟨#[42, 120]⟩ : ByteArray) ++ d1) ++ ⟨#[94]⟩) d2).run Tryd.prog wx = .ok (.string ((((⟨#[42, 120]⟩ : ByteArray) ++ d1) ++ ⟨#[94]⟩) ++ d2)) wx := fun wx => run_string_add_sum _ _ _ (by simp only [ByteArray.size_append]; omega)
        have r4 : ∀ wx : World, (Op.stringOp .add s ((((⟨#[42, 120]⟩ : ByteArray) ++ d1) ++ ⟨#[94]⟩) ++ d2)).run Tryd.prog wx = .ok (.string (s ++ ((((⟨#[42, 120]⟩ : ByteArray) ++ d1) ++ ⟨#[94]⟩) ++ d2))) wx := fun wx => run_string_add_sum _ _ _ (by simp only [ByteArray.size_append]; omega)
        go_wp2
        have KS := Lib.hid (And.intro h0' hc1)
        go_region_held3 (fun wx => wx.cell? ⟨b, o, none⟩ = some (.slice (some ⟨ba, oa, none⟩) es.length cap) ∧ wx.cell? ⟨ba, oa + k, none⟩ = some (.int .i64 x)) (first | exact KS.out | go_keep | exact keep2 KS.out hb2 | exact keep2 KS.out (hb2.trans (hb3.mono hb2.size)))
          (first
            | (go_at_call 27; have _tk := hb2; (with_reducible refine (HD2.out _).mono ?_); rintro e w3 ⟨rfl, hb3'⟩; have hb3 : Below w2.heap.size w2 w3 := by first | exact bdrew hb3' | exact bdrewN hb3' | exact hb3')
            | (go_at_call 27; (with_reducible refine (HD1.out _).mono ?_); rintro e w2 ⟨rfl, hb2'⟩; have hb2 : Below wr.heap.size wr w2 := by first | exact bdrew hb2' | exact bdrewN hb2' | exact hb2'))
        all_goals
          have HB3 := Lib.hid (bnext HB.out (bnext hb2 hb3))
          clear hb3 hb2 KS
          go_wp2
          go_roundw
          case rel => exact ⟨k + 1, by omega, by go_num, by rw [HT2.out], HB3.out⟩
          case measure => simp [intOf]; omega
      · have HT2 : Hid (termB c es (k + 1) = s) := by show _ = _; rw [HT.out, if_neg hx0]
        clear HT
        go_wp2
        go_roundw
        case rel => exact ⟨k + 1, by omega, by go_num, by rw [HT2.out], HB.out⟩
        case measure => simp [intOf]; omega
    · obtain rfl : k = es.length := by omega
      go_wp2
      go_ret
      exact ⟨rfl, HB.out⟩

end Go.Proofs.YtnomnaojondffaaDoor
