/- Texts put together: PDec, WDec. -/
import Derived.Test.YtpfpdjaccggkgaaDoorKB
import Derived.Lib.ItoaNum
import Derived.Lib.Join
import Derived.Laws.BytesArg
import Derived.Laws.BitsLemmas

/- Numerals and joined texts, plainly. No program here. -/
namespace Go.Proofs.YtpfpdjaccggkgaaDoor

/-- a numeral -/
def decB (n : Nat) : ByteArray := ⟨(Go.Lib.decDigits n).toArray⟩
theorem dec_small {n : Nat} (h : n < 10) : Go.Lib.decDigits n = [UInt8.ofNat (48 + n)] := by rw [Go.Lib.decDigits, dif_pos h]
theorem dec_big {n : Nat} (h : ¬ n < 10) : Go.Lib.decDigits n = Go.Lib.decDigits (n / 10) ++ [UInt8.ofNat (48 + n % 10)] := by rw [Go.Lib.decDigits, dif_neg h]
theorem dec_len (k : Nat) : ∀ n, n < 10 ^ (k + 1) → (Go.Lib.decDigits n).length ≤ k + 1 ∧ 0 < (Go.Lib.decDigits n).length := by
  induction k with
  | zero => intro n h; rw [dec_small (by omega)]; simp
  | succ k ih =>
    intro n h
    by_cases h10 : n < 10
    · rw [dec_small h10]; simp
    · have := ih (n / 10) (by rw [Nat.pow_succ] at h; omega)
      rw [dec_big h10]
      simp only [List.length_append, List.length_singleton]
      omega
theorem decB_size9 {n : Nat} (h : n < 10000000000) : (decB n).size ≤ 10 := by
  have := dec_len 9 n h
  have e : (decB n).size = (Go.Lib.decDigits n).length := by simp [decB, ByteArray.size]
  omega
theorem mkB_append (a b : List UInt8) : (⟨a.toArray⟩ : ByteArray) ++ ⟨b.toArray⟩ = ⟨(a ++ b).toArray⟩ := by
  apply ByteArray.ext
  simp [ByteArray.data_append]
theorem join_snoc (xs : List (List UInt8)) (y sep : List UInt8) (h : xs ≠ []) : Go.Lib.join (xs ++ [y]) sep = (Go.Lib.join xs sep ++ sep) ++ y := by
  cases xs with
  | nil => exact absurd rfl h
  | cons x r => rw [List.cons_append, Go.Lib.join_cons, Go.Lib.join_cons]; simp [Go.Lib.joinTail]
theorem mkB_data (s : ByteArray) : (⟨s.data.toList.toArray⟩ : ByteArray) = s := by simp

/-- a word of a schedule -/
def wordB (k a : Int) : ByteArray :=
  if k = 1 then ⟨#[97]⟩ ++ decB a.toNat else if k = 2 then ⟨#[115]⟩ ++ decB a.toNat else if k = 3 then ⟨#[108]⟩ ++ decB a.toNat else ⟨#[114]⟩
def acAt (l : List (Int × Int)) (i : Nat) : Int × Int := l.getD i (0, 0)
def wdAt (l : List (Int × Int)) (i : Nat) : ByteArray := wordB (acAt l i).1 (acAt l i).2
theorem wordB_size {k a : Int} (h : a ≤ 1000) : (wordB k a).size ≤ 11 := by
  have := decB_size9 (n := a.toNat) (by omega)
  have e1 : (⟨#[97]⟩ : ByteArray).size = 1 := rfl
  have e2 : (⟨#[115]⟩ : ByteArray).size = 1 := rfl
  have e3 : (⟨#[108]⟩ : ByteArray).size = 1 := rfl
  have e4 : (⟨#[114]⟩ : ByteArray).size = 1 := rfl
  unfold wordB
  split
  · rw [ByteArray.size_append]; omega
  · split
    · rw [ByteArray.size_append]; omega
    · split
      · rw [ByteArray.size_append]; omega
      · omega
/-- the first k words -/
def catW (l : List (Int × Int)) : Nat → ByteArray
  | 0 => ⟨#[]⟩
  | k + 1 => if k = 0 then wdAt l 0 else (catW l k ++ ⟨#[32]⟩) ++ wdAt l k
theorem ac_get {l : List (Int × Int)} {k : Nat} (h : k < l.length) : l[k]? = some (acAt l k) := by simp [acAt, List.getD, h]
theorem catW_size {l : List (Int × Int)} (h : ∀ k, k < l.length → (wdAt l k).size ≤ 11) (k : Nat) (hk : k ≤ l.length) : (catW l k).size ≤ 12 * k := by
  induction k with
  | zero => simp [catW]; rfl
  | succ k ih =>
    have ih := ih (by omega)
    have ht := h k (by omega)
    unfold catW
    split
    · rename_i h0; subst h0; omega
    · simp only [ByteArray.size_append]
      have e1 : (⟨#[32]⟩ : ByteArray).size = 1 := rfl
      omega
def wordsOf (l : List (Int × Int)) : List ByteArray := l.map fun x => wordB x.1 x.2
theorem take_words {l : List (Int × Int)} {k : Nat} (h : k < l.length) : wordsOf (l.take (k + 1)) = wordsOf (l.take k) ++ [wdAt l k] := by
  unfold wordsOf wdAt
  rw [List.take_add_one, ac_get h]; simp
theorem len_words {l : List (Int × Int)} {k : Nat} (h : k ≤ l.length) : (wordsOf (l.take k)).length = k := by simp [wordsOf]; omega
theorem catW_join (l : List (Int × Int)) (k : Nat) (hk : k ≤ l.length) : catW l k = ⟨(Go.Lib.join ((wordsOf (l.take k)).map (·.data.toList)) [32]).toArray⟩ := by
  induction k with
  | zero => simp [catW, Go.Lib.join_nil, wordsOf]
  | succ k ih =>
    have hlt : k < l.length := by omega
    unfold catW
    rw [take_words hlt]
    split
    · rename_i h0
      subst h0
      simp [wordsOf, Go.Lib.join_one]
    · rename_i h0
      have hne : ((wordsOf (l.take k)).map (·.data.toList)) ≠ [] := by
        intro h
        have h2 := congrArg List.length h
        rw [List.length_map, len_words (by omega), List.length_nil] at h2
        omega
      rw [List.map_append, List.map_singleton, join_snoc _ _ _ hne, ih (by omega), ← mkB_append, ← mkB_append, mkB_data]
end Go.Proofs.YtpfpdjaccggkgaaDoor

/- Walks: numerals, in the spec. -/
namespace Go.Proofs.YtpfpdjaccggkgaaDoor
open Go.RowKit

theorem cellNew1 (w : World) (t : TypeId) (v : Value) : (w.alloc (.cells #[v] t)).cell? ⟨w.heap.size, 0, none⟩ = some v := by simp
theorem allocLt (w : World) (o : Obj) : w.heap.size < (w.alloc o).heap.size := by simp

set_option maxRecDepth 100000 in
set_option maxHeartbeats 1000000 in
theorem decS_any : ∀ (m : Nat) (a : Int) (w : World), 0 ≤ a → a.toNat < m → a ≤ 1000000000 →
    Calls Tryd.prog 17 #[.int .i64 a] w fun e w' => e = .returned (.string (decB a.toNat)) ∧ Below w.heap.size w w' := by
  intro m
  induction m with
  | zero => intro a w _ h; omega
  | succ m ih =>
  intro a w a0 hm a1
  by_cases h10 : a < 10
  · have kc : (convert 43 9 (.slice (some ⟨w.heap.size, 0, none⟩) 1 1)).run Tryd.prog (w.alloc (.cells #[.int .u8 (48 + a)] 5)) = .ok (.string (strOfNums [48 + a])) (w.alloc (.cells #[.int .u8 (48 + a)] 5)) :=
      run_convert_bytes_arg _ 43 5 Tryd.underlying43 Tryd.underlying5 w.heap.size 0 1 1 [48 + a] rfl (fun i hi => by
        have h0 : i = 0 := by omega
        subst h0
        show _ = some (Value.int .u8 (48 + a))
        simp) 9 Tryd.underlying9
    have HD : Hid (strOfNums [48 + a] = decB a.toNat) := by
      show _ = _
      unfold strOfNums decB
      rw [dec_small (by omega), List.map_singleton, show (48 + a).toNat = 48 + a.toNat by omega]
    go_enter Tryd.func17, Tryd.ntmps17
    go_wp2
    all_goals
      go_ret
      exact ⟨by rw [HD.out]; rfl, by go_grown⟩
  · obtain ⟨d, hd⟩ : ∃ d, d = 48 + a % 10 := ⟨_, rfl⟩
    obtain ⟨q, hq⟩ : ∃ q, q = a / 10 := ⟨_, rfl⟩
    have e1 : IntKind.i64.wrap (a.tdiv 10) = q := by
      rw [Int.tdiv_eq_ediv_of_nonneg a0, IntKind.wrap_i64, hq]; omega
    have e2 : IntKind.u8.wrap (IntKind.i64.wrap (48 + a.tmod 10)) = d := by
      rw [Int.tmod_eq_emod_of_nonneg a0, IntKind.wrap_u8, IntKind.wrap_i64, hd]
      omega
    have kcx : Hid (∀ (W : World) (b : Nat), W.cell? ⟨b, 0, none⟩ = some (.int .u8 d) → (convert 43 9 (.slice (some ⟨b, 0, none⟩) 1 1)).run Tryd.prog W = .ok (.string (strOfNums [d])) W) := fun W b hc =>
      run_convert_bytes_arg _ 43 5 Tryd.underlying43 Tryd.underlying5 b 0 1 1 [d] rfl (fun i hi => by
        have h0 : i = 0 := by omega
        subst h0
        exact hc) 9 Tryd.underlying9
    have kc : ∀ wx : World, (convert 43 9 (.slice (some ⟨wx.heap.size, 0, none⟩) 1 1)).run Tryd.prog (wx.alloc (.cells #[.int .u8 d] 5)) = .ok (.string (strOfNums [d])) (wx.alloc (.cells #[.int .u8 d] 5)) := fun wx =>
      kcx.out _ _ (by simp)
    have kcd : ∀ wx : World, (convert 43 9 (.slice (some ⟨wx.heap.size, 0, none⟩) 1 1)).run Tryd.prog (wx.alloc (.cells #[.int .u8 d] 5)).drew = .ok (.string (strOfNums [d])) (wx.alloc (.cells #[.int .u8 d] 5)).drew := fun wx => kcx.out _ _ (by show World.cell? (wx.alloc _) _ = _; simp)
    have kcn : ∀ (wx : World) (n : Nat), (convert 43 9 (.slice (some ⟨wx.heap.size, 0, none⟩) 1 1)).run Tryd.prog ((wx.alloc (.cells #[.int .u8 d] 5)).drewN n) = .ok (.string (strOfNums [d])) ((wx.alloc (.cells #[.int .u8 d] 5)).drewN n) := fun wx n => kcx.out _ _ (by show World.cell? (wx.alloc _) _ = _; simp)
    have kz : (strOfNums [d]).size = 1 := rfl
    have HC : Hid (∀ wx, Calls Tryd.prog 17 #[.int .i64 q] wx fun e w' => e = .returned (.string (decB q.toNat)) ∧ Below wx.heap.size wx w') := fun wx => ih q wx (by omega) (by omega) (by omega)
    have hs := decB_size9 (n := q.toNat) (by omega)
    have HD : Hid (decB q.toNat ++ strOfNums [d] = decB a.toNat) := by
      show _ = _
      unfold strOfNums decB
      rw [dec_big (n := a.toNat) (by omega), mkB_append, List.map_singleton, show d.toNat = 48 + a.toNat % 10 by omega, show q.toNat = a.toNat / 10 by omega]
    generalize decB q.toNat = s at *
    clear ih hd hq
    go_enter Tryd.func17, Tryd.ntmps17
    go_wp2
    go_region_with (go_at_call 17; refine (HC.out _).mono ?_; rintro e w1 ⟨rfl, hb1⟩; first | (have hcell : w1.cell? ⟨w.heap.size, 0, none⟩ = some (.int .u8 d) := (hb1.cell (p := ⟨w.heap.size, 0, none⟩) (allocLt w (.cells #[.int .u8 d] 5))).trans (cellNew1 w 5 (.int .u8 d)); have kc1 := kcx.out w1 w.heap.size hcell) | skip)
    all_goals
      have hb1' : Below w.heap.size w w1 := by first | exact bdrew hb1 | exact bdrewN hb1 | exact hb1 | exact bnext (by go_grown) hb1
      go_wp2
      go_ret
      exact ⟨by rw [HD.out]; rfl, by first | exact hb1' | exact bnext hb1' (by go_grown; done) | exact below_drewN' hb1' _ | exact hb1'.drew⟩

end Go.Proofs.YtpfpdjaccggkgaaDoor
