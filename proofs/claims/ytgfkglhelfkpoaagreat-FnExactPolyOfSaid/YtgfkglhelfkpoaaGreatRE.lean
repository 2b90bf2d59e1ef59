/- Texts put together: WOk1, WOk2, WOk3, WOk4, WOk5, WOk6. -/
import Derived.Test.YtgfkglhelfkpoaaGreatRC
import Derived.Test.YtgfkglhelfkpoaaGreatRA
import Derived.Test.YtgfkglhelfkpoaaGreatRB
import Derived.Test.YtgfkglhelfkpoaaGreatRD
import Derived.StillTailTactics

/- Walks of the reference's looks at expressions: l02Left, l02Depth. -/
namespace Go.Proofs.YtgfkglhelfkpoaaGreat
open Go.RowKit Plain

abbrev ptr (b o : Nat) : Value := .pointer (some ⟨b, o, none⟩)

def LeftC (ks : Es) : Prop := ∀ (k n p c : Int) (b o B : Nat) (l : Int) (w : World), ElAt w B k n p c ks b o → B ≤ w.heap.size → ks.size ≤ 1048576 → 0 ≤ l → l ≤ 1048576 →
  Calls Tryz.prog 140 #[ptr b o, .int .i64 l] w fun e w' => e = .returned (.int .i64 (leftL ks (l - 1))) ∧ Below w.heap.size w w'

set_option maxRecDepth 100000 in
set_option maxHeartbeats 1000000 in
theorem left_any : ∀ (m : Nat) (ks : Es), ks.size < m → LeftC ks := by
  intro m
  induction m with
  | zero => intro es h; omega
  | succ m ih =>
  intro ks hm k n p c b o B l w hE hB hsz0 l0 l1
  have IH := Lib.hid ih; clear ih
  obtain ⟨hbB, h0, h1, h2, h3, K, cap, b', o', h4, hc, hcm, hK, hks⟩ := hE
  have HKS := Lib.hid hks; clear hks
  have hcm' : cap ≤ 9223372036854775807 := by unfold maxLen at hcm; omega
  have hbw : b < w.heap.size := by omega
  have hls := Es.len_le_size ks
  go_enter Tryz.func140, Tryz.ntmps140
  go_wp2
  go_loopw [1, 5] (fun ll i wr => ∃ (j : Nat) (es' : Es) (y : Int), i = .int .i64 (j : Int) ∧ ll = .int .i64 y ∧ j + es'.len = ks.len ∧ -1 ≤ y ∧ y ≤ l ∧ Hid (leftL es' y = leftL ks (l - 1)) ∧ Hid (es'.size ≤ ks.size) ∧ Hid (ExsAt wr B es' b' (o' + j * 5)) ∧ Hid (Below w.heap.size w wr)) (fun _ i _ => ks.len - (intOf i).toNat)
  case atStart => exact ⟨0, ks, l - 1, by go_num, rfl, by omega, by omega, by omega, rfl, Nat.le_refl _, by show ExsAt _ _ _ _ _; rw [Nat.zero_mul, Nat.add_zero]; exact HKS.out, Below.refl _ _⟩
  case round =>
    obtain ⟨j, es', y, rfl, rfl, hj, y0, y1, hy, hsz, HE, HB⟩ := hrel
    have h4' : wr.cell? ⟨b, o + 4, none⟩ = some (.slice K ks.len cap) := (HB.out.cell (p := ⟨b, _, none⟩) hbw).trans h4
    cases es' with
    | nil =>
      simp only [Es.len] at hj
      go_wp2
      go_ret
      exact ⟨ret_int hy.out, HB.out⟩
    | cons kk n' p' c' ks' r =>
      simp only [Es.len] at hj
      by_cases hn : y < 0
      · go_wp2
        go_ret
        have := hy.out
        rw [leftL_neg _ _ hn] at this
        exact ⟨ret_int this, HB.out⟩
      · have hK := hK (by omega)
        subst hK
        obtain ⟨hel, hr⟩ := HE.out
        have HEL := Lib.hid hel
        have HR := Lib.hid hr
        have hrs : Hid (r.size ≤ ks.size ∧ ks'.size < ks.size) := by
          have := hsz.out
          simp only [Es.size] at this
          exact ⟨by omega, by omega⟩
        clear hel hr HE
        go_wp2_with fail
        refine (IH.out ks' (by have := hrs.out; omega) kk n' p' c' b' (o' + j * 5) B y wr HEL.out (by have := HB.out.size; omega) (by have := hrs.out; omega) (by omega) (by omega)).mono ?_; rintro e w1 ⟨rfl, hb1⟩
        have HE1 : Hid (ExsAt w1 B r b' (o' + (j + 1) * 5)) := by
          have := HR.out.below (hb1.mono (by have := HB.out.size; omega))
          rwa [show o' + j * 5 + 5 = o' + (j + 1) * 5 by omega] at this
        have HB1 := Lib.hid (bnext HB.out hb1)
        obtain ⟨z, hz⟩ : ∃ z, z = leftL ks' (y - 1) := ⟨_, rfl⟩
        rw [← hz]
        have hbd := leftL_bd ks' (y - 1) (by omega)
        rw [← hz] at hbd
        have HZ : Hid (leftL r z = leftL ks (l - 1)) := by
          have := hy.out
          rw [leftL, if_neg (by omega)] at this
          rw [hz]; exact this
        clear hz hb1 HR HEL
        go_wp2
        go_roundw
        case rel => exact ⟨j + 1, r, z, by go_num, rfl, by omega, by omega, by omega, HZ, hrs.out.1, HE1, HB1⟩
        case measure => simp [intOf]; omega

theorem Es.depth_le (es : Es) : es.depth ≤ es.size := by
  induction es with
  | nil => exact Nat.le_refl _
  | cons k n p c ks r ih1 ih2 => simp only [Es.depth, Es.size]; omega

theorem maxS_any (a b : Int) (w : World) : Calls Tryz.prog 212 #[.int .i64 a, .int .i64 b] w fun e w' => e = .returned (.int .i64 (max a b)) ∧ w = w' := by
  by_cases h : b < a
  · have hm : max a b = a := by omega
    rw [hm]
    go_enter Tryz.func212, Tryz.ntmps212
    go_wp2
    go_ret
    exact ⟨rfl, rfl⟩
  · have hm : max a b = b := by omega
    rw [hm]
    go_enter Tryz.func212, Tryz.ntmps212
    go_wp2
    go_ret
    exact ⟨rfl, rfl⟩

def DepthC (ks : Es) : Prop := ∀ (k n p c : Int) (b o B : Nat) (w : World), ElAt w B k n p c ks b o → B ≤ w.heap.size → ks.size ≤ 1048576 →
  Calls Tryz.prog 141 #[ptr b o] w fun e w' => e = .returned (.int .i64 ((ks.depth + 1 : Nat) : Int)) ∧ Below w.heap.size w w'

set_option maxRecDepth 100000 in
set_option maxHeartbeats 1000000 in
theorem depth_any : ∀ (m : Nat) (ks : Es), ks.size < m → DepthC ks := by
  intro m
  induction m with
  | zero => intro es h; omega
  | succ m ih =>
  intro ks hm k n p c b o B w hE hB hsz0
  have IH := Lib.hid ih; clear ih
  obtain ⟨hbB, h0, h1, h2, h3, K, cap, b', o', h4, hc, hcm, hK, hks⟩ := hE
  have HKS := Lib.hid hks; clear hks
  have hcm' : cap ≤ 9223372036854775807 := by unfold maxLen at hcm; omega
  have hbw : b < w.heap.size := by omega
  have hls := Es.len_le_size ks
  have hdp := Es.depth_le ks
  go_enter Tryz.func141, Tryz.ntmps141
  go_wp2
  go_loopw [3, 4] (fun ll i wr => ∃ (j : Nat) (es' : Es) (y : Nat), i = .int .i64 (j : Int) ∧ ll = .int .i64 (y : Int) ∧ j + es'.len = ks.len ∧ y ≤ ks.depth ∧ Hid (max y es'.depth = ks.depth) ∧ Hid (es'.size ≤ ks.size) ∧ Hid (ExsAt wr B es' b' (o' + j * 5)) ∧ Hid (Below w.heap.size w wr)) (fun _ i _ => ks.len - (intOf i).toNat)
  case atStart => exact ⟨0, ks, 0, by go_num, by go_num, by omega, by omega, by show _ = _; omega, Nat.le_refl _, by show ExsAt _ _ _ _ _; rw [Nat.zero_mul, Nat.add_zero]; exact HKS.out, Below.refl _ _⟩
  case round =>
    obtain ⟨j, es', y, rfl, rfl, hj, y1, hy, hsz, HE, HB⟩ := hrel
    have h4' : wr.cell? ⟨b, o + 4, none⟩ = some (.slice K ks.len cap) := (HB.out.cell (p := ⟨b, _, none⟩) hbw).trans h4
    cases es' with
    | nil =>
      simp only [Es.len] at hj
      go_wp2
      go_ret
      have := hy.out
      simp only [Es.depth] at this
      exact ⟨ret_int (by omega), HB.out⟩
    | cons kk n' p' c' ks' r =>
      simp only [Es.len] at hj
      have hK := hK (by omega)
      subst hK
      obtain ⟨hel, hr⟩ := HE.out
      have HEL := Lib.hid hel
      have HR := Lib.hid hr
      have hrs : Hid (r.size ≤ ks.size ∧ ks'.size < ks.size) := by
        have := hsz.out
        simp only [Es.size] at this
        exact ⟨by omega, by omega⟩
      clear hel hr HE
      go_wp2_with fail
      refine (IH.out ks' (by have := hrs.out; omega) kk n' p' c' b' (o' + j * 5) B wr HEL.out (by have := HB.out.size; omega) (by have := hrs.out; omega)).mono ?_; rintro e w1 ⟨rfl, hb1⟩
      have HE1 : Hid (ExsAt w1 B r b' (o' + (j + 1) * 5)) := by
        have := HR.out.below (hb1.mono (by have := HB.out.size; omega))
        rwa [show o' + j * 5 + 5 = o' + (j + 1) * 5 by omega] at this
      have HB1 := Lib.hid (bnext HB.out hb1)
      obtain ⟨z, hz⟩ : ∃ z, z = ks'.depth + 1 := ⟨_, rfl⟩
      rw [← hz]
      have HZ : Hid (max (max y z) r.depth = ks.depth) := by
        have := hy.out
        simp only [Es.depth] at this
        show _ = _; omega
      clear hz hb1 HR HEL
      go_wp2_with fail
      refine (maxS_any _ _ _).mono ?_; rintro e w2 ⟨rfl, rfl⟩
      have hmx : (max (y : Int) (z : Int)) = ((max y z : Nat) : Int) := by omega
      rw [hmx]
      have hq : max y z ≤ ks.depth := by have := HZ.out; omega
      generalize max y z = q at *
      go_wp2
      go_roundw
      case rel => exact ⟨j + 1, r, q, by go_num, rfl, by omega, hq, HZ, hrs.out.1, HE1, HB1⟩
      case measure => simp [intOf]; omega

end Go.Proofs.YtgfkglhelfkpoaaGreat

/- Walks of the reference's looks at expressions: l02Kids, l02Node, l02Tree, l02Expr. -/
namespace Go.Proofs.YtgfkglhelfkpoaaGreat
open Go.RowKit Plain

theorem quiet_add_same {P : Program} {f : FuncId} {args : Array Value} {w : World} {a n : Nat} {v : Value}
    (h : Calls P f args (w.drewN (a + n)) fun e w' => e = .returned v ∧ w' = w.drewN (a + n)) :
    Calls P f args (w.drewN (a + n)) fun e w'' => e = .returned v ∧ ∃ m, w'' = w.drewN (a + m) :=
  h.mono fun _ _ ⟨he, hm⟩ => ⟨he, n, hm⟩
theorem FlAt.mono {w : World} {B B' : Nat} {f : Fn} {b o : Nat} (h : FlAt w B f b o) (hb : B ≤ B') : FlAt w B' f b o := by
  obtain ⟨hB, h0, h1, hs, K, cap, h2, hc, hm, hk⟩ := h
  exact ⟨Nat.lt_of_lt_of_le hB hb, h0, h1, hs, K, cap, h2, hc, hm, hk.mono hb⟩
theorem FnsAt.mono {w : World} {B B' : Nat} (hb : B ≤ B') : ∀ {fs : List Fn} {b o : Nat}, FnsAt w B fs b o → FnsAt w B' fs b o
  | [], _, _, _ => trivial
  | _ :: _, _, _, h => ⟨FlAt.mono h.1 hb, FnsAt.mono hb h.2⟩
theorem FnSl.mono {w : World} {B B' : Nat} {fs : List Fn} {A : Option Addr} (h : FnSl w B fs A) (hb : B ≤ B') : FnSl w B' fs A := by
  obtain ⟨b, o, hA, h⟩ := h
  exact ⟨b, o, hA, h.mono hb⟩
theorem FnSl.get {w : World} {B : Nat} {fs : List Fn} {A : Option Addr} (h : FnSl w B fs A) {i : Nat} {f : Fn} (hf : fs[i]? = some f) : ∃ b o, A = some ⟨b, o, none⟩ ∧ FlAt w B f b (o + i * 3) := by
  obtain ⟨b, o, hA, h⟩ := h
  exact ⟨b, o, hA (by have := (List.getElem?_eq_some_iff.1 hf).1; omega), h.get hf⟩

/-- a program's variable lies at ⟨b, o⟩; all is in blocks below B -/
def PrAt (w : World) (B : Nat) (P : List Fn) (b o : Nat) : Prop :=
  b < B ∧ ∃ A cap, w.cell? ⟨b, o, none⟩ = some (.slice A P.length cap) ∧ P.length ≤ cap ∧ cap ≤ maxLen ∧ FnSl w B P A
theorem PrAt.below {w w' : World} {B : Nat} {P : List Fn} {b o : Nat} (h : PrAt w B P b o) (hb : Below B w w') : PrAt w' B P b o := by
  obtain ⟨h0, A, cap, h1, h2, h3, h4⟩ := h
  exact ⟨h0, A, cap, (hb.cell (p := ⟨b, _, none⟩) h0).trans h1, h2, h3, h4.below hb⟩

theorem isNumberS_any (x : Int) (w : World) : Calls Tryz.prog 255 #[.int .i64 x] w fun e w' => e = .returned (.bool (inR x 0 1000002)) ∧ w = w' := by
  go_enter Tryz.func255, Tryz.ntmps255
  go_wp2_with fail
  refine (in_any _ _ _ _).mono ?_; rintro e w' ⟨rfl, rfl⟩
  go_wp2
  go_ret
  exact ⟨rfl, rfl⟩

theorem in_bq (b : Bool) (n lo hi : Int) (h : inR n lo hi = b) (w : World) : Calls Tryz.prog 106 #[.int .i64 n, .int .i64 lo, .int .i64 hi] w fun e w' => e = .returned (.bool b) ∧ w' = w :=
  (in_any n lo hi w).mono fun _ _ ⟨h1, h2⟩ => ⟨h ▸ h1, h2.symm⟩
/-- the number of kids of a kind -/
def kidsN (k : Int) : Int := if k = 1 ∨ k = 2 then 0 else if k = 3 ∨ k = 4 ∨ k = 5 ∨ k = 6 ∨ k = 9 then 2 else if k = 7 then 1 else if k = 8 then 3 else -1
theorem kidsN_any (k : Int) (w : World) : Calls Tryz.prog 254 #[.int .i64 k] w fun e w' => e = .returned (.int .i64 (kidsN k)) ∧ w = w' := by
  go_enter Tryz.func254, Tryz.ntmps254
  go_wp2
  all_goals
    go_ret
    exact ⟨ret_int (by simp_all [kidsN]), rfl⟩
theorem kidsN_quiet (k : Int) (w : World) : Calls Tryz.prog 254 #[.int .i64 k] w fun e w' => e = .returned (.int .i64 (kidsN k)) ∧ w' = w :=
  (kidsN_any k w).mono fun _ _ ⟨h1, h2⟩ => ⟨h1, h2.symm⟩
theorem in_quiet (n lo hi : Int) (w : World) : Calls Tryz.prog 106 #[.int .i64 n, .int .i64 lo, .int .i64 hi] w fun e w' => e = .returned (.bool (inR n lo hi)) ∧ w' = w :=
  (in_any n lo hi w).mono fun _ _ ⟨h1, h2⟩ => ⟨h1, h2.symm⟩

theorem nodeOk_call {P : List Fn} {fn vars k n p c : Int} {len : Nat} {f : Fn} (hk : k = 10 ∨ k = 11) (hf : P[n.toNat]? = some f) (hn : inR n 0 (fn - 1) = true) :
    nodeOk P fn vars k n p c len = (decide ((len : Int) = f.params) && inR p 0 ((f.outs.len : Int) - 1) && (if k = 10 then c == 0 else decide ((f.outs.len : Int) = f.params) && inR c 0 8)) := by
  unfold nodeOk; rw [if_pos hk, hf, hn]; rfl
theorem nodeOk_no {P : List Fn} {fn vars k n p c : Int} {len : Nat} (hk : k = 10 ∨ k = 11) (hn : inR n 0 (fn - 1) = false) : nodeOk P fn vars k n p c len = false := by
  unfold nodeOk; rw [if_pos hk, hn]; rfl
theorem nodeOk_plain {P : List Fn} {fn vars k n p c : Int} {len : Nat} (hk : ¬ (k = 10 ∨ k = 11)) : nodeOk P fn vars k n p c len =
    (decide (kidsN k = len) && p == 0 && c == 0 && (if k = 1 then inR n 0 1000002 else if k = 2 then inR n 0 (vars - 1) else n == 0)) := by
  unfold nodeOk kidsN
  rw [if_neg hk]
  have e (x : Nat) : (len == x) = decide ((len : Int) = x) := by rw [Bool.eq_iff_iff]; simp; omega
  have e0 := e 0
  have e1 := e 1
  have e2 := e 2
  have e3 := e 3
  by_cases h1 : k = 1
  · subst h1; simp [Bool.and_left_comm, Bool.and_assoc, eq_comm, e0]
  by_cases h2 : k = 2
  · subst h2; simp [Bool.and_left_comm, Bool.and_assoc, eq_comm, e0]
  by_cases h3 : k = 3 ∨ k = 4 ∨ k = 5 ∨ k = 6 ∨ k = 9
  · simp [h1, h2, h3, Bool.and_comm, Bool.and_left_comm, Bool.and_assoc, eq_comm, e2]
  by_cases h7 : k = 7
  · subst h7; simp [Bool.and_comm, Bool.and_left_comm, Bool.and_assoc, eq_comm, e1]
  by_cases h8 : k = 8
  · subst h8; simp [Bool.and_comm, Bool.and_left_comm, Bool.and_assoc, eq_comm, e3]
  simp [h1, h2, h3, h7, h8]

theorem wrapm1 {n : Nat} (h : (n : Int) ≤ 9223372036854775807) : IntKind.i64.wrap ((n : Int) - 1) = (n : Int) - 1 := by rw [IntKind.wrap_i64]; omega
def NodePost (r : Bool) (w : World) (e : Ending) (w' : World) : Prop := e = .returned (.bool r) ∧ Below w.heap.size w w'
theorem NodePost.d2 {r r' : Bool} {w : World} {n m : Nat} (h : r' = r) : NodePost r w (.returned (.bool r')) ((w.drewN n).drewN m) := ⟨ret_bool h, (Drawn.trans ⟨_, rfl⟩ ⟨_, rfl⟩).below _⟩
theorem NodePost.d1 {r r' : Bool} {w : World} {n : Nat} (h : r' = r) : NodePost r w (.returned (.bool r')) (w.drewN n) := ⟨ret_bool h, Drawn.below ⟨_, rfl⟩ _⟩
theorem NodePost.d0 {r r' : Bool} {w : World} (h : r' = r) : NodePost r w (.returned (.bool r')) w := ⟨ret_bool h, Below.refl _ _⟩

set_option maxRecDepth 100000 in
set_option maxHeartbeats 1000000 in
theorem node_call (P : List Fn) (ks : Es) (k n p c vars funcs : Int) (b o bp op B : Nat) (w : World) (hE : ElAt w B k n p c ks b o) (hP : PrAt w B P bp op) (hf0 : 0 ≤ funcs) (hf1 : funcs ≤ P.length) (hk : k = 10 ∨ k = 11) :
    Calls Tryz.prog 213 #[ptr bp op, ptr b o, .int .i64 vars, .int .i64 funcs] w (NodePost (nodeOk P funcs vars k n p c ks.len) w) := by
  obtain ⟨hbB, h0, h1, h2, h3, K, cap, b', o', h4, hc, hcm, hK, hks⟩ := hE
  obtain ⟨hbp, A, capP, hp0, hPl, hPm, hFS⟩ := hP
  have HFS := Lib.hid hFS; clear hFS hks
  have hcm' : cap ≤ 9223372036854775807 := by unfold maxLen at hcm; omega
  have hPm' : capP ≤ 9223372036854775807 := by unfold maxLen at hPm; omega
  cases hn : inR n 0 (funcs - 1)
  · have HN := Lib.hid (nodeOk_no (P := P) (vars := vars) (p := p) (c := c) (len := ks.len) hk hn)
    go_enter Tryz.func213, Tryz.ntmps213
    rcases hk with rfl | rfl
    all_goals
      go_wp2_with fail
      refine (in_any _ _ _ _).mono ?_; rintro e w' ⟨rfl, rfl⟩
      rw [hn]
      go_wp2
      go_ret
      exact NodePost.d0 HN.out.symm
  · obtain ⟨n0, n1⟩ := inR_true.1 hn
    obtain ⟨m, rfl⟩ := Int.eq_ofNat_of_zero_le n0
    obtain ⟨f, hf⟩ : ∃ f, P[m]? = some f := ⟨P[m]'(by omega), List.getElem?_eq_getElem _⟩
    have HN := Lib.hid (nodeOk_call (vars := vars) (p := p) (c := c) (len := ks.len) hk (show P[(m : Int).toNat]? = some f from hf) hn)
    obtain ⟨bF, oF, rfl, hbF, g0, g1, _, KF, cF, g2, hcF, hcFm, _⟩ := HFS.out.get hf
    have hcF' : cF ≤ 9223372036854775807 := by unfold maxLen at hcFm; omega
    have hl4 : ((f.outs.len : Nat) : Int) ≤ 9223372036854775807 := by omega
    have hl5 : ((ks.len : Nat) : Int) ≤ 9223372036854775807 := by omega
    have hw := wrapm1 hl4
    have hNN := Lib.hid hn
    cases hp : inR p 0 ((f.outs.len : Int) - 1)
    · have HP := Lib.hid hp
      clear hp hn
      go_enter Tryz.func213, Tryz.ntmps213
      rcases hk with rfl | rfl
      all_goals
        go_wp2_with fail
        refine (in_any _ _ _ _).mono ?_; rintro e w' ⟨rfl, rfl⟩
        rw [hNN.out]
        go_wp2_with fail
        go_quiet (fail)
        rename Nat => nq
        go_wp2_with fail
        go_quiet ((go_at_call 106; exact quiet_add_same (in_bq false _ _ _ HP.out _)))
        rename Nat => nq2
        go_wp2
        go_returns
        exact NodePost.d2 (by rw [HN.out, HP.out]; simp)
    · have HP := Lib.hid hp
      clear hp hn
      cases hl : ((ks.len : Int) == f.params)
      · have hl' : (ks.len : Int) ≠ f.params := by simpa using hl
        go_enter Tryz.func213, Tryz.ntmps213
        rcases hk with rfl | rfl
        all_goals
          go_wp2_with fail
          refine (in_any _ _ _ _).mono ?_; rintro e w' ⟨rfl, rfl⟩
          rw [hNN.out]
          go_wp2_with fail
          go_quiet (fail)
          rename Nat => nq
          go_wp2_with fail
          go_quiet ((go_at_call 106; exact quiet_add_same (in_bq true _ _ _ HP.out _)))
          rename Nat => nq2
          go_wp2
          go_returns
          exact NodePost.d2 (by rw [HN.out, HP.out]; simp [hl'])
      · have HL : Hid ((ks.len : Int) = f.params) := by show _ = _; simpa using hl
        have hl2 : ((ks.len : Int) != f.params) = false := by simpa using hl
        rcases hk with rfl | rfl
        · go_enter Tryz.func213, Tryz.ntmps213
          go_wp2_with fail
          refine (in_any _ _ _ _).mono ?_; rintro e w' ⟨rfl, rfl⟩
          rw [hNN.out]
          go_wp2_with fail
          go_quiet (fail)
          rename Nat => nq
          go_wp2_with fail
          go_quiet ((go_at_call 106; exact quiet_add_same (in_bq true _ _ _ HP.out _)))
          rename Nat => nq2
          go_wp2
          go_returns
          first
            | refine NodePost.d1 ?_
            | refine NodePost.d2 ?_
          rw [HN.out, HP.out]
          simp [HL.out]
        · cases hc8 : inR c 0 8
          all_goals
            have HC := Lib.hid hc8
            clear hc8
            cases ho : ((f.outs.len : Int) == f.params)
          all_goals
            have HO := Lib.hid ho
            go_enter Tryz.func213, Tryz.ntmps213
            go_wp2_with fail
            refine (in_any _ _ _ _).mono ?_; rintro e w' ⟨rfl, rfl⟩
            rw [hNN.out]
            go_wp2_with fail
            go_quiet (fail)
            rename Nat => nq
            go_wp2_with fail
            go_quiet ((go_at_call 106; exact quiet_add_same (in_bq true _ _ _ HP.out _)))
            rename Nat => nq2
            go_wp2_with fail
            go_quiet ((go_at_call 106; exact quiet_add_same (in_bq _ _ _ _ HC.out _)))
            rename Nat => nq3
            go_wp2
            go_returns
            first
              | refine NodePost.d1 ?_
              | refine NodePost.d2 ?_
            have := HO.out
            rw [HN.out, HP.out, HC.out]
            simp_all [HL.out]

end Go.Proofs.YtgfkglhelfkpoaaGreat

/- Walks of the reference's looks at expressions: l02Node at kinds without a function; l02Node whole. -/
namespace Go.Proofs.YtgfkglhelfkpoaaGreat
open Go.RowKit Plain

set_option maxRecDepth 100000 in
set_option maxHeartbeats 1000000 in
theorem node_plain (P : List Fn) (ks : Es) (k n p c vars funcs : Int) (b o bp op B : Nat) (w : World) (hE : ElAt w B k n p c ks b o) (v0 : 0 ≤ vars) (v1 : vars ≤ 2000000) (hk : ¬ (k = 10 ∨ k = 11)) :
    Calls Tryz.prog 213 #[ptr bp op, ptr b o, .int .i64 vars, .int .i64 funcs] w (NodePost (nodeOk P funcs vars k n p c ks.len) w) := by
  obtain ⟨hbB, h0, h1, h2, h3, K, cap, b', o', h4, hc, hcm, hK, hks⟩ := hE
  clear hks
  have hcm' : cap ≤ 9223372036854775807 := by unfold maxLen at hcm; omega
  have HN := Lib.hid (nodeOk_plain (P := P) (fn := funcs) (vars := vars) (n := n) (p := p) (c := c) (len := ks.len) hk)
  have hk1 : (k == 10) = false := by simp; omega
  have hk2 : (k == 11) = false := by simp; omega
  have hv : IntKind.i64.wrap (vars - 1) = vars - 1 := by rw [IntKind.wrap_i64]; omega
  have hl5 : ((ks.len : Nat) : Int) ≤ 9223372036854775807 := by omega
  clear hk
  by_cases e1 : kidsN k = ks.len
  · have e1n : (kidsN k == (ks.len : Int)) = true := by simpa using e1
    have e1m : (kidsN k != (ks.len : Int)) = false := by simpa using e1
    have E1 := Lib.hid e1; clear e1
    by_cases e2 : p = 0
    · by_cases e3 : c = 0
      · subst e2 e3
        by_cases ek1 : k = 1
        · have k1 : (k == 1) = true := by simpa using ek1
          have EK := Lib.hid ek1; clear ek1
          go_enter Tryz.func213, Tryz.ntmps213
          go_wp2_with fail
          go_quiet ((go_at_call 254; exact Calls.quiet_of_same (kidsN_quiet _ _)))
          rename Nat => nq
          go_wp2_with fail
          refine (isNumberS_any _ _).mono ?_; rintro e w' ⟨rfl, rfl⟩
          go_wp2
          go_returns
          exact NodePost.d1 (by rw [HN.out, decide_eq_true E1.out]; simp [EK.out])
        by_cases ek2 : k = 2
        · have k1 : (k == 1) = false := by simpa using ek1
          have k2 : (k == 2) = true := by simpa using ek2
          have EK1 := Lib.hid ek1; clear ek1
          have EK := Lib.hid ek2; clear ek2
          go_enter Tryz.func213, Tryz.ntmps213
          go_wp2_with fail
          go_quiet ((go_at_call 254; exact Calls.quiet_of_same (kidsN_quiet _ _)))
          rename Nat => nq
          go_wp2_with fail
          refine (in_any _ _ _ _).mono ?_; rintro e w' ⟨rfl, rfl⟩
          go_wp2
          go_returns
          exact NodePost.d1 (by rw [HN.out, decide_eq_true E1.out]; simp [EK.out])
        have k1 : (k == 1) = false := by simpa using ek1
        have k2 : (k == 2) = false := by simpa using ek2
        go_enter Tryz.func213, Tryz.ntmps213
        go_wp2_with fail
        go_quiet ((go_at_call 254; exact Calls.quiet_of_same (kidsN_quiet _ _)))
        rename Nat => nq
        go_wp2
        go_returns
        exact NodePost.d1 (by rw [HN.out]; simp [E1.out, ek1, ek2])
      · have k1 : (c == 0) = false := by simpa using e3
        have k1' : (c != 0) = true := by simpa using e3
        subst e2
        go_enter Tryz.func213, Tryz.ntmps213
        go_wp2_with fail
        go_quiet ((go_at_call 254; exact Calls.quiet_of_same (kidsN_quiet _ _)))
        rename Nat => nq
        go_wp2
        go_returns
        exact NodePost.d1 (by rw [HN.out]; simp [e3])
    · have k1 : (p == 0) = false := by simpa using e2
      have k1' : (p != 0) = true := by simpa using e2
      go_enter Tryz.func213, Tryz.ntmps213
      go_wp2_with fail
      go_quiet ((go_at_call 254; exact Calls.quiet_of_same (kidsN_quiet _ _)))
      rename Nat => nq
      go_wp2
      go_returns
      exact NodePost.d1 (by rw [HN.out]; simp [e2])
  · have k1 : (kidsN k == (ks.len : Int)) = false := by simpa using e1
    have k1' : (kidsN k != (ks.len : Int)) = true := by simpa using e1
    go_enter Tryz.func213, Tryz.ntmps213
    go_wp2_with fail
    go_quiet ((go_at_call 254; exact Calls.quiet_of_same (kidsN_quiet _ _)))
    rename Nat => nq
    go_wp2
    go_returns
    exact NodePost.d1 (by rw [HN.out]; simp [e1])

theorem node_any (P : List Fn) (ks : Es) (k n p c vars funcs : Int) (b o bp op B : Nat) (w : World) (hE : ElAt w B k n p c ks b o) (hP : PrAt w B P bp op) (hf0 : 0 ≤ funcs) (hf1 : funcs ≤ P.length) (v0 : 0 ≤ vars) (v1 : vars ≤ 2000000) :
    Calls Tryz.prog 213 #[ptr bp op, ptr b o, .int .i64 vars, .int .i64 funcs] w fun e w' => e = .returned (.bool (nodeOk P funcs vars k n p c ks.len)) ∧ Below w.heap.size w w' := by
  by_cases hk : k = 10 ∨ k = 11
  · exact node_call P ks k n p c vars funcs b o bp op B w hE hP hf0 hf1 hk
  · exact node_plain P ks k n p c vars funcs b o bp op B w hE v0 v1 hk

end Go.Proofs.YtgfkglhelfkpoaaGreat

/- Walks of IsName, the reference's and the program's. -/
namespace Go.Proofs.YtgfkglhelfkpoaaGreat
open Go.RowKit Plain

/-- may the byte stand at place i of a name? -/
def gd (i : Nat) (c : UInt8) : Bool := chr1 c || (decide (0 < i) && decide (48 ≤ c.toNat ∧ c.toNat ≤ 57))
/-- the first k bytes are right -/
def gdTo (s : ByteArray) (k : Nat) : Prop := ∀ i (h : i < s.size), i < k → gd i s[i] = true
theorem gdTo_succ {s : ByteArray} {k : Nat} (h : gdTo s k) (hk : k < s.size) (hg : gd k s[k] = true) : gdTo s (k + 1) := fun i hi hik => by
  by_cases e : i = k
  · subst e; exact hg
  · exact h i hi (by omega)
theorem nmB_iff (c : UInt8) (r : List UInt8) : (chr1 c && r.all chr2) = true ↔ ∀ i (h : i < (c :: r).length), gd i (c :: r)[i] = true := by
  simp only [Bool.and_eq_true, List.all_eq_true]
  constructor
  · rintro ⟨h1, h2⟩ i hi
    cases i with
    | zero => simp [gd, h1]
    | succ i =>
      have hi' : i < r.length := by simpa using hi
      have := h2 r[i] (List.getElem_mem _)
      simpa [gd, chr2] using this
  · intro h
    refine ⟨by have := h 0 (by simp); simpa [gd] using this, fun x hx => ?_⟩
    obtain ⟨i, hi, rfl⟩ := List.getElem_of_mem hx
    have := h (i + 1) (by simpa using hi)
    simpa [gd, chr2] using this
theorem gdTo_list {s : ByteArray} {l : List UInt8} (hl : s.data.toList = l) : (∀ i (h : i < l.length), gd i l[i] = true) ↔ gdTo s s.size := by
  subst hl
  constructor
  · intro h i hi _
    exact h i (by simpa using hi)
  · intro h i hi
    have hi' : i < s.size := by simpa using hi
    exact h i hi' hi'
theorem nameOk_iff (s : ByteArray) : nameOk s = true ↔ (1 ≤ s.size ∧ s.size ≤ 12) ∧ gdTo s s.size := by
  unfold nameOk
  rw [Bool.and_eq_true, decide_eq_true_iff]
  refine and_congr_right fun hz => ?_
  have hl : s.data.toList.length = s.size := by simp
  cases hd : s.data.toList with
  | nil => rw [hd] at hl; simp at hl; omega
  | cons c r => exact (nmB_iff c r).trans (gdTo_list hd)
theorem nameOk_true {s : ByteArray} (h1 : 1 ≤ s.size) (h2 : s.size ≤ 12) (h : gdTo s s.size) : nameOk s = true := (nameOk_iff s).2 ⟨⟨h1, h2⟩, h⟩
theorem nameOk_size {s : ByteArray} (h : ¬ (1 ≤ s.size ∧ s.size ≤ 12)) : nameOk s = false := by
  rw [Bool.eq_false_iff]; exact fun e => h ((nameOk_iff s).1 e).1
theorem nameOk_bad {s : ByteArray} {k : Nat} (hk : k < s.size) (h : gd k s[k] = false) : nameOk s = false := by
  rw [Bool.eq_false_iff]; intro e
  have := ((nameOk_iff s).1 e).2 k hk hk
  rw [h] at this; cases this
theorem gd_let {k : Nat} {c : UInt8} (h1 : 97 ≤ (c.toNat : Int)) (h2 : (c.toNat : Int) ≤ 122) : gd k c = true := by
  unfold gd chr1; rw [Bool.or_eq_true]; exact .inl (by simp; omega)
theorem gd_dig {k : Nat} {c : UInt8} (h0 : 0 < k) (h1 : 48 ≤ (c.toNat : Int)) (h2 : (c.toNat : Int) ≤ 57) : gd k c = true := by
  unfold gd; rw [Bool.or_eq_true]; exact .inr (by simp; omega)
theorem gd_no {k : Nat} {c : UInt8} (h1 : ¬ (97 ≤ (c.toNat : Int) ∧ (c.toNat : Int) ≤ 122)) (h2 : ¬ (0 < k ∧ 48 ≤ (c.toNat : Int) ∧ (c.toNat : Int) ≤ 57)) : gd k c = false := by
  unfold gd chr1; rw [Bool.or_eq_false_iff]; refine ⟨by simp; omega, by simp; omega⟩

set_option maxRecDepth 100000 in
set_option maxHeartbeats 1000000 in
theorem isName_any (s : ByteArray) (w : World) (hs : s.size ≤ maxLen) :
    Calls Tryz.prog 148 #[.string s] w fun e w' => e = .returned (.bool (nameOk s)) ∧ w = w' := by
  unfold maxLen at hs
  go_enter Tryz.func148, Tryz.ntmps148
  go_wp2
  go_loop [3, 6] (fun _ i => ∃ k : Nat, k ≤ s.size ∧ i = .int .i64 (k : Int) ∧ Hid (gdTo s k)) (fun _ i => s.size - (intOf i).toNat)
  case atStart => exact ⟨0, Nat.zero_le _, by go_num, fun i _ h => absurd h (by omega)⟩
  case round =>
    obtain ⟨k, hk, rfl, HG⟩ := hrel
    by_cases hlt : k < s.size
    · by_cases a : 97 ≤ (s[k].toNat : Int) ∧ (s[k].toNat : Int) ≤ 122
      · have HN : Hid (gdTo s (k + 1)) := gdTo_succ HG.out hlt (gd_let a.1 a.2)
        obtain ⟨a1, a2⟩ := a
        have b1 : ¬ (s[k].toNat : Int) < 97 := by omega
        have b2 : ¬ 122 < (s[k].toNat : Int) := by omega
        go_wp2
        go_round
        case rel => exact ⟨k + 1, by omega, by go_num, HN⟩
        case measure => simp [intOf]; omega
      · by_cases d : 0 < k ∧ 48 ≤ (s[k].toNat : Int) ∧ (s[k].toNat : Int) ≤ 57
        · have HN : Hid (gdTo s (k + 1)) := gdTo_succ HG.out hlt (gd_dig d.1 d.2.1 d.2.2)
          obtain ⟨d0, d1, d2⟩ := d
          have b1 : (s[k].toNat : Int) < 97 := by omega
          have b2 : ¬ (s[k].toNat : Int) < 48 := by omega
          have b3 : ¬ 57 < (s[k].toNat : Int) := by omega
          have b4 : ((k : Int) == 0) = false := by simp; omega
          clear a
          go_wp2
          go_round
          case rel => exact ⟨k + 1, by omega, by go_num, HN⟩
          case measure => simp [intOf]; omega
        · have HN := Lib.hid (nameOk_bad hlt (gd_no a d))
          by_cases b1 : (s[k].toNat : Int) < 97
          · by_cases k0 : k = 0
            · subst k0
              clear a d
              go_wp2
              go_ret
              exact ⟨ret_bool HN.out.symm, rfl⟩
            · have b4 : ((k : Int) == 0) = false := by simp; omega
              by_cases b2 : (s[k].toNat : Int) < 48
              · clear a d
                go_wp2
                go_ret
                exact ⟨ret_bool HN.out.symm, rfl⟩
              · have b3 : 57 < (s[k].toNat : Int) := by omega
                clear a d
                go_wp2
                go_ret
                exact ⟨ret_bool HN.out.symm, rfl⟩
          · have b2 : 122 < (s[k].toNat : Int) := by omega
            have b5 : ¬ (s[k].toNat : Int) < 48 := by omega
            have b6 : 57 < (s[k].toNat : Int) := by omega
            by_cases k0 : k = 0
            · subst k0
              clear a d
              go_wp2
              go_ret
              exact ⟨ret_bool HN.out.symm, rfl⟩
            · have b4 : ((k : Int) == 0) = false := by simp; omega
              clear a d
              go_wp2
              go_ret
              exact ⟨ret_bool HN.out.symm, rfl⟩
    · obtain rfl : k = s.size := by omega
      by_cases h1 : 1 ≤ s.size
      · by_cases h2 : s.size ≤ 12
        · have HN := Lib.hid (nameOk_true h1 h2 HG.out)
          go_wp2
          go_ret
          exact ⟨ret_bool (by rw [HN.out]; first | rfl | (simp; done) | (simp; omega)), rfl⟩
        · have HN := Lib.hid (nameOk_size (s := s) (by omega))
          go_wp2
          go_ret
          exact ⟨ret_bool (by rw [HN.out]; first | rfl | (simp; done) | (simp; omega)), rfl⟩
      · have HN := Lib.hid (nameOk_size (s := s) (by omega))
        go_wp2
        go_ret
        exact ⟨ret_bool HN.out.symm, rfl⟩

set_option maxRecDepth 100000 in
set_option maxHeartbeats 1000000 in
theorem isNameS_any (s : ByteArray) (w : World) (hs : s.size ≤ maxLen) :
    Calls Tryz.prog 211 #[.string s] w fun e w' => e = .returned (.bool (nameOk s)) ∧ w = w' := by
  unfold maxLen at hs
  cases hz : inR s.size 1 12
  · have HN : Hid (nameOk s = false) := nameOk_size (fun h => by rw [inR_true.2 (by omega)] at hz; cases hz)
    have HZ := Lib.hid hz; clear hz
    go_enter Tryz.func211, Tryz.ntmps211
    go_wp2_with fail
    refine (in_any _ _ _ _).mono ?_; rintro e w' ⟨rfl, rfl⟩
    rw [HZ.out]
    go_wp2
    go_ret
    exact ⟨ret_bool HN.out.symm, rfl⟩
  · obtain ⟨z1, z2⟩ := inR_true.1 hz
    have HZ := Lib.hid hz; clear hz
    have z3 : 0 < s.size := by omega
    by_cases a : 97 ≤ (s[0].toNat : Int) ∧ (s[0].toNat : Int) ≤ 122
    · obtain ⟨a1, a2⟩ := a
      have b1 : ¬ (s[0].toNat : Int) < 97 := by omega
      have b2 : ¬ 122 < (s[0].toNat : Int) := by omega
      have G0 : Hid (gd 0 s[0] = true) := gd_let a1 a2
      go_enter Tryz.func211, Tryz.ntmps211
      go_wp2_with fail
      refine (in_any _ _ _ _).mono ?_; rintro e w' ⟨rfl, rfl⟩
      rw [HZ.out]
      go_wp2
      go_loop [3] (fun i => ∃ k : Nat, k ≤ s.size ∧ i = .int .i64 (k : Int) ∧ Hid (gdTo s k)) (fun i => s.size - (intOf i).toNat)
      case atStart => exact ⟨0, Nat.zero_le _, by go_num, fun i _ h => absurd h (by omega)⟩
      case round =>
        obtain ⟨k, hk, rfl, HG⟩ := hrel
        clear a1 a2 b1 b2
        by_cases hlt : k < s.size
        · by_cases a : 97 ≤ (s[k].toNat : Int) ∧ (s[k].toNat : Int) ≤ 122
          · have HN : Hid (gdTo s (k + 1)) := gdTo_succ HG.out hlt (gd_let a.1 a.2)
            obtain ⟨a1, a2⟩ := a
            have b1 : ¬ (s[k].toNat : Int) < 97 := by omega
            have b2 : ¬ 122 < (s[k].toNat : Int) := by omega
            go_wp2
            go_round
            case rel => exact ⟨k + 1, by omega, by go_num, HN⟩
            case measure => simp [intOf]; omega
          · by_cases d : 48 ≤ (s[k].toNat : Int) ∧ (s[k].toNat : Int) ≤ 57
            · have k0 : 0 < k := by
                rcases Nat.eq_zero_or_pos k with rfl | h
                · have := G0.out; rw [gd_no a (by omega)] at this; cases this
                · exact h
              have HN : Hid (gdTo s (k + 1)) := gdTo_succ HG.out hlt (gd_dig k0 d.1 d.2)
              obtain ⟨d1, d2⟩ := d
              have b1 : (s[k].toNat : Int) < 97 := by omega
              have b2 : ¬ (s[k].toNat : Int) < 48 := by omega
              have b3 : ¬ 57 < (s[k].toNat : Int) := by omega
              clear a
              go_wp2
              go_round
              case rel => exact ⟨k + 1, by omega, by go_num, HN⟩
              case measure => simp [intOf]; omega
            · have HN := Lib.hid (nameOk_bad hlt (gd_no a (by omega)))
              by_cases b1 : (s[k].toNat : Int) < 97
              · by_cases b2 : (s[k].toNat : Int) < 48
                · clear a d
                  go_wp2
                  go_ret
                  exact ⟨ret_bool HN.out.symm, rfl⟩
                · have b3 : 57 < (s[k].toNat : Int) := by omega
                  clear a d
                  go_wp2
                  go_ret
                  exact ⟨ret_bool HN.out.symm, rfl⟩
              · have b2 : 122 < (s[k].toNat : Int) := by omega
                have b5 : ¬ (s[k].toNat : Int) < 48 := by omega
                have b6 : 57 < (s[k].toNat : Int) := by omega
                clear a d
                go_wp2
                go_ret
                exact ⟨ret_bool HN.out.symm, rfl⟩
        · obtain rfl : k = s.size := by omega
          have HN := Lib.hid (nameOk_true (by omega) (by omega) HG.out)
          go_wp2
          go_ret
          exact ⟨ret_bool HN.out.symm, rfl⟩
    · have HN := Lib.hid (nameOk_bad z3 (gd_no a (by omega)))
      by_cases b1 : (s[0].toNat : Int) < 97
      · clear a
        go_enter Tryz.func211, Tryz.ntmps211
        go_wp2_with fail
        refine (in_any _ _ _ _).mono ?_; rintro e w' ⟨rfl, rfl⟩
        rw [HZ.out]
        go_wp2
        go_ret
        exact ⟨ret_bool HN.out.symm, rfl⟩
      · have b2 : 122 < (s[0].toNat : Int) := by omega
        clear a
        go_enter Tryz.func211, Tryz.ntmps211
        go_wp2_with fail
        refine (in_any _ _ _ _).mono ?_; rintro e w' ⟨rfl, rfl⟩
        rw [HZ.out]
        go_wp2
        go_ret
        exact ⟨ret_bool HN.out.symm, rfl⟩

end Go.Proofs.YtgfkglhelfkpoaaGreat

/- Walks of the reference's looks at expressions: l02Tree, l02Expr. -/
namespace Go.Proofs.YtgfkglhelfkpoaaGreat
open Go.RowKit Plain

theorem kidVars_bd (k vars : Int) (j : Nat) : vars ≤ kidVars k vars j ∧ kidVars k vars j ≤ vars + 1 := by unfold kidVars; split <;> omega

def TreeC (P : List Fn) (ks : Es) : Prop := ∀ (k n p c : Int) (b o bp op B : Nat) (vars funcs : Int) (w : World), ElAt w B k n p c ks b o → PrAt w B P bp op → B ≤ w.heap.size → 0 ≤ funcs → funcs ≤ P.length → 0 ≤ vars → vars + ks.depth ≤ 2000000 → ks.size ≤ 1048576 →
  Calls Tryz.prog 142 #[ptr bp op, ptr b o, .int .i64 vars, .int .i64 funcs] w fun e w' => e = .returned (.bool (nodeOk P funcs vars k n p c ks.len && formedL P funcs ks k 0 vars)) ∧ Below w.heap.size w w'

set_option maxRecDepth 100000 in
set_option maxHeartbeats 1000000 in
theorem tree_any (P : List Fn) : ∀ (m : Nat) (ks : Es), ks.size < m → TreeC P ks := by
  intro m
  induction m with
  | zero => intro es h; omega
  | succ m ih =>
  intro ks hm k n p c b o bp op B vars funcs w hE hP hB f0 f1 v0 v1 hsz0
  have IH := Lib.hid ih; clear ih
  have HNODE := Lib.hid (node_any P ks k n p c vars funcs b o bp op B w hE hP f0 f1 v0 (by omega))
  have HP := Lib.hid hP; clear hP
  obtain ⟨hbB, h0, h1, h2, h3, K, cap, b', o', h4, hc, hcm, hK, hks⟩ := hE
  have HKS := Lib.hid hks; clear hks
  have hcm' : cap ≤ 9223372036854775807 := by unfold maxLen at hcm; omega
  have hbw : b < w.heap.size := by omega
  have hls := Es.len_le_size ks
  cases hn : nodeOk P funcs vars k n p c ks.len
  · have HN := Lib.hid hn; clear hn
    go_enter Tryz.func142, Tryz.ntmps142
    go_wp2_with fail
    refine HNODE.out.mono ?_; rintro e w1 ⟨rfl, hb1⟩
    rw [HN.out]
    go_wp2
    go_ret
    exact ⟨rfl, hb1⟩
  · have HN := Lib.hid hn; clear hn
    obtain ⟨F, hF⟩ : ∃ F, F = formedL P funcs ks k 0 vars := ⟨_, rfl⟩
    have HF := Lib.hid hF; clear hF
    rw [Bool.true_and, ← HF.out]
    go_enter Tryz.func142, Tryz.ntmps142
    go_wp2_with fail
    refine HNODE.out.mono ?_; rintro e w1 ⟨rfl, hb1⟩
    rw [HN.out]
    have HB1 := Lib.hid hb1; clear hb1
    go_wp2
    go_loopw [9] (fun i wr => ∃ (j : Nat) (es' : Es), i = .int .i64 (j : Int) ∧ j + es'.len = ks.len ∧ Hid (formedL P funcs es' k j vars = F) ∧ Hid (es'.size ≤ ks.size ∧ es'.depth ≤ ks.depth) ∧ Hid (ExsAt wr B es' b' (o' + j * 5)) ∧ Hid (Below w.heap.size w wr)) (fun i _ => ks.len - (intOf i).toNat)
    case atStart => exact ⟨0, ks, by go_num, by omega, HF.out.symm, ⟨Nat.le_refl _, Nat.le_refl _⟩, by show ExsAt _ _ _ _ _; rw [Nat.zero_mul, Nat.add_zero]; exact HKS.out.below (HB1.out.mono hB), HB1.out⟩
    case round =>
      obtain ⟨j, es', rfl, hj, hy, hsz, HE, HB⟩ := hrel
      have h0' : wr.cell? ⟨b, o, none⟩ = some (.int .i64 k) := (HB.out.cell (p := ⟨b, _, none⟩) hbw).trans h0
      have h4' : wr.cell? ⟨b, o + 4, none⟩ = some (.slice K ks.len cap) := (HB.out.cell (p := ⟨b, _, none⟩) hbw).trans h4
      cases es' with
      | nil =>
        simp only [Es.len] at hj
        go_wp2
        go_ret
        have := hy.out
        simp only [formedL] at this
        exact ⟨ret_bool this, HB.out⟩
      | cons kk n' p' c' ks' r =>
        simp only [Es.len] at hj
        have hK := hK (by omega)
        subst hK
        obtain ⟨hel, hr⟩ := HE.out
        have HEL := Lib.hid hel
        have HR := Lib.hid hr
        have hrs : Hid ((r.size ≤ ks.size ∧ r.depth ≤ ks.depth) ∧ ks'.size < ks.size ∧ ks'.depth + 1 ≤ ks.depth) := by
          have := hsz.out
          simp only [Es.size, Es.depth] at this
          exact ⟨⟨by omega, by omega⟩, by omega, by omega⟩
        clear hel hr HE
        have hkv := kidVars_bd k vars j
        have hy2 := hy.out
        simp only [formedL] at hy2
        have hcall := IH.out ks' (by have := hrs.out; omega) kk n' p' c' b' (o' + j * 5) bp op B (kidVars k vars j) funcs wr HEL.out (HP.out.below (HB.out.mono hB)) (by have := HB.out.size; omega) f0 f1 (by omega) (by have := hrs.out; omega) (by have := hrs.out; omega)
        generalize (nodeOk P funcs (kidVars k vars j) kk n' p' c' ks'.len && formedL P funcs ks' kk 0 (kidVars k vars j)) = bb at hy2 hcall
        have HY2 := Lib.hid hy2; clear hy2
        have HCALL := Lib.hid hcall; clear hcall hkv
        by_cases h9 : k = 9 ∧ j = 1
        · have e9 : (k == 9) = true := by simpa using h9.1
          have e1 : ((j : Int) == 1) = true := by simp; omega
          have hkv : kidVars k vars j = vars + 1 := by unfold kidVars; rw [if_pos h9]
          rw [hkv] at HCALL
          clear h9 hkv
          go_wp2_with fail
          refine HCALL.out.mono ?_; rintro e w2 ⟨rfl, hb2⟩
          have HE1 : Hid (ExsAt w2 B r b' (o' + (j + 1) * 5)) := by
            have := HR.out.below (hb2.mono (by have := HB.out.size; omega))
            rwa [show o' + j * 5 + 5 = o' + (j + 1) * 5 by omega] at this
          have HB2 := Lib.hid (bnext HB.out hb2)
          clear hb2 HR HEL HCALL
          cases bb
          · have HN2 : Hid (F = false) := by have := HY2.out; rw [Bool.false_and] at this; exact this.symm
            go_wp2
            go_ret
            exact ⟨ret_bool HN2.out.symm, HB2.out⟩
          · have HN2 : Hid (formedL P funcs r k (j + 1) vars = F) := by have := HY2.out; rw [Bool.true_and] at this; exact this
            go_wp2
            go_roundw
            case rel => exact ⟨j + 1, r, by go_num, by omega, HN2, hrs.out.1, HE1, HB2⟩
            case measure => simp [intOf]; omega
        · have hkv : kidVars k vars j = vars := by unfold kidVars; rw [if_neg h9]
          rw [hkv] at HCALL
          clear hkv
          by_cases h8 : k = 9
          · have e9 : (k == 9) = true := by simpa using h8
            have e1 : ((j : Int) == 1) = false := by simp; omega
            clear h9 h8
            go_wp2_with fail
            refine HCALL.out.mono ?_; rintro e w2 ⟨rfl, hb2⟩
            have HE1 : Hid (ExsAt w2 B r b' (o' + (j + 1) * 5)) := by
              have := HR.out.below (hb2.mono (by have := HB.out.size; omega))
              rwa [show o' + j * 5 + 5 = o' + (j + 1) * 5 by omega] at this
            have HB2 := Lib.hid (bnext HB.out hb2)
            clear hb2 HR HEL HCALL
            cases bb
            · have HN2 : Hid (F = false) := by have := HY2.out; rw [Bool.false_and] at this; exact this.symm
              go_wp2
              go_ret
              exact ⟨ret_bool HN2.out.symm, HB2.out⟩
            · have HN2 : Hid (formedL P funcs r k (j + 1) vars = F) := by have := HY2.out; rw [Bool.true_and] at this; exact this
              go_wp2
              go_roundw
              case rel => exact ⟨j + 1, r, by go_num, by omega, HN2, hrs.out.1, HE1, HB2⟩
              case measure => simp [intOf]; omega
          · have e9 : (k == 9) = false := by simpa using h8
            clear h9 h8
            go_wp2_with fail
            refine HCALL.out.mono ?_; rintro e w2 ⟨rfl, hb2⟩
            have HE1 : Hid (ExsAt w2 B r b' (o' + (j + 1) * 5)) := by
              have := HR.out.below (hb2.mono (by have := HB.out.size; omega))
              rwa [show o' + j * 5 + 5 = o' + (j + 1) * 5 by omega] at this
            have HB2 := Lib.hid (bnext HB.out hb2)
            clear hb2 HR HEL HCALL
            cases bb
            · have HN2 : Hid (F = false) := by have := HY2.out; rw [Bool.false_and] at this; exact this.symm
              go_wp2
              go_ret
              exact ⟨ret_bool HN2.out.symm, HB2.out⟩
            · have HN2 : Hid (formedL P funcs r k (j + 1) vars = F) := by have := HY2.out; rw [Bool.true_and] at this; exact this
              go_wp2
              go_roundw
              case rel => exact ⟨j + 1, r, by go_num, by omega, HN2, hrs.out.1, HE1, HB2⟩
              case measure => simp [intOf]; omega

theorem vars_any (x : Int) (w : World) : Calls Tryz.prog 139 #[.int .i64 x] w fun e w' => e = .returned (.bool (inR x 0 412)) ∧ w = w' := by
  go_enter Tryz.func139, Tryz.ntmps139
  go_wp2_with fail
  refine (in_any _ _ _ _).mono ?_; rintro e w' ⟨rfl, rfl⟩
  go_wp2
  go_ret
  exact ⟨rfl, rfl⟩

theorem exprOk_vars {P : List Fn} {x : Nd} {vars funcs : Int} (h : inR vars 0 412 = false) : exprOk P x vars funcs = false := by unfold exprOk; rw [h]; rfl
theorem exprOk_funcs {P : List Fn} {x : Nd} {vars funcs : Int} (h : inR funcs 0 P.length = false) : exprOk P x vars funcs = false := by unfold exprOk; rw [h]; simp
theorem exprOk_size {P : List Fn} {x : Nd} {vars funcs : Int} (h : ¬ x.ks.size ≤ 399) : exprOk P x vars funcs = false := by
  have : decide (x.size ≤ 400) = false := decide_eq_false (by unfold Nd.size; omega)
  unfold exprOk; rw [this]; simp
theorem exprOk_depth {P : List Fn} {x : Nd} {vars funcs : Int} (h : ¬ x.ks.depth ≤ 59) : exprOk P x vars funcs = false := by
  have : decide (x.depth ≤ 60) = false := decide_eq_false (by unfold Nd.depth; omega)
  unfold exprOk; rw [this]; simp
theorem exprOk_formed {P : List Fn} {x : Nd} {vars funcs : Int} (h0 : inR vars 0 412 = true) (h1 : inR funcs 0 P.length = true) (h2 : x.ks.size ≤ 399) (h3 : x.ks.depth ≤ 59) : exprOk P x vars funcs = formed P funcs vars x := by
  have e1 : decide (x.size ≤ 400) = true := decide_eq_true (by unfold Nd.size; omega)
  have e2 : decide (x.depth ≤ 60) = true := decide_eq_true (by unfold Nd.depth; omega)
  unfold exprOk; rw [h0, h1, e1, e2]; rfl

set_option maxRecDepth 100000 in
set_option maxHeartbeats 1000000 in
theorem exprS_any (P : List Fn) (ks : Es) (k n p c vars funcs : Int) (b o bp op B : Nat) (w : World) (hE : ElAt w B k n p c ks b o) (hP : PrAt w B P bp op) (hB : B ≤ w.heap.size) (hsz : ks.size ≤ 1048576) :
    Calls Tryz.prog 68 #[ptr bp op, ptr b o, .int .i64 vars, .int .i64 funcs] w fun e w' => e = .returned (.bool (exprOk P ⟨k, n, p, c, ks⟩ vars funcs)) ∧ Below w.heap.size w w' := by
  have HE := Lib.hid hE; clear hE
  have HP := Lib.hid hP
  obtain ⟨hbp, A, capP, hp0, hPl, hPm, _⟩ := hP
  have hPm' : capP ≤ 9223372036854775807 := by unfold maxLen at hPm; omega
  cases hv : inR vars 0 412
  · have HN := Lib.hid (exprOk_vars (P := P) (x := ⟨k, n, p, c, ks⟩) (funcs := funcs) hv)
    have HV := Lib.hid hv; clear hv
    go_enter Tryz.func68, Tryz.ntmps68
    go_wp2_with fail
    refine (vars_any _ _).mono ?_; rintro e w' ⟨rfl, rfl⟩
    rw [HV.out]
    go_wp2
    go_ret
    exact ⟨ret_bool HN.out.symm, Below.refl _ _⟩
  have HV := Lib.hid hv; clear hv
  cases hf : inR funcs 0 P.length
  · have HN := Lib.hid (exprOk_funcs (P := P) (x := ⟨k, n, p, c, ks⟩) (vars := vars) hf)
    have HF := Lib.hid hf; clear hf
    go_enter Tryz.func68, Tryz.ntmps68
    go_wp2_with fail
    refine (vars_any _ _).mono ?_; rintro e w' ⟨rfl, rfl⟩
    rw [HV.out]
    go_wp2_with fail
    refine (in_any _ _ _ _).mono ?_; rintro e w' ⟨rfl, rfl⟩
    rw [HF.out]
    go_wp2
    go_ret
    exact ⟨ret_bool HN.out.symm, Below.refl _ _⟩
  have HF := Lib.hid hf; clear hf
  by_cases hs : ks.size ≤ 399
  · have hl : Hid (0 ≤ leftL ks (400 - 1)) := (leftL_ok ks _ (by omega)).2 ⟨by omega, by omega⟩
    by_cases hd : ks.depth ≤ 59
    · obtain ⟨v0, v1⟩ := inR_true.1 HV.out
      obtain ⟨f0, f1⟩ := inR_true.1 HF.out
      have HN : Hid (exprOk P ⟨k, n, p, c, ks⟩ vars funcs = (nodeOk P funcs vars k n p c ks.len && formedL P funcs ks k 0 vars)) := exprOk_formed HV.out HF.out hs hd
      rw [HN.out]
      generalize hbb : (nodeOk P funcs vars k n p c ks.len && formedL P funcs ks k 0 vars) = bb
      have HBB := Lib.hid hbb; clear hbb HN
      go_enter Tryz.func68, Tryz.ntmps68
      go_wp2_with fail
      refine (vars_any _ _).mono ?_; rintro e w' ⟨rfl, rfl⟩
      rw [HV.out]
      go_wp2_with fail
      refine (in_any _ _ _ _).mono ?_; rintro e w' ⟨rfl, rfl⟩
      rw [HF.out]
      go_wp2_with fail
      refine (left_any (ks.size + 1) ks (by omega) k n p c b o B 400 w HE.out hB hsz (by omega) (by omega)).mono ?_; rintro e w1 ⟨rfl, hb1⟩
      have hl := hl.out
      generalize leftL ks (400 - 1) = q at *
      go_wp2_with fail
      refine (depth_any (ks.size + 1) ks (by omega) k n p c b o B w1 (HE.out.below (hb1.mono hB)) (by have := hb1.size; omega) hsz).mono ?_; rintro e w2 ⟨rfl, hb2⟩
      have hq : ((ks.depth + 1 : Nat) : Int) ≤ 60 := by omega
      generalize ((ks.depth + 1 : Nat) : Int) = q2 at *
      have HB2 := Lib.hid (bnext hb1 hb2)
      clear hb1 hb2
      go_wp2_with fail
      refine (tree_any P (ks.size + 1) ks (by omega) k n p c b o bp op B vars funcs w2 (HE.out.below (HB2.out.mono hB)) (HP.out.below (HB2.out.mono hB)) (by have := HB2.out.size; omega) f0 f1 v0 (by omega) hsz).mono ?_; rintro e w3 ⟨rfl, hb3⟩
      rw [HBB.out]
      have HB3 := Lib.hid (bnext HB2.out hb3)
      clear hb3
      go_wp2
      go_ret
      exact ⟨rfl, HB3.out⟩
    · have HN := Lib.hid (exprOk_depth (P := P) (x := ⟨k, n, p, c, ks⟩) (vars := vars) (funcs := funcs) hd)
      go_enter Tryz.func68, Tryz.ntmps68
      go_wp2_with fail
      refine (vars_any _ _).mono ?_; rintro e w' ⟨rfl, rfl⟩
      rw [HV.out]
      go_wp2_with fail
      refine (in_any _ _ _ _).mono ?_; rintro e w' ⟨rfl, rfl⟩
      rw [HF.out]
      go_wp2_with fail
      refine (left_any (ks.size + 1) ks (by omega) k n p c b o B 400 w HE.out hB hsz (by omega) (by omega)).mono ?_; rintro e w1 ⟨rfl, hb1⟩
      have hl := hl.out
      generalize leftL ks (400 - 1) = q at *
      go_wp2_with fail
      refine (depth_any (ks.size + 1) ks (by omega) k n p c b o B w1 (HE.out.below (hb1.mono hB)) (by have := hb1.size; omega) hsz).mono ?_; rintro e w2 ⟨rfl, hb2⟩
      have hq : 60 < ((ks.depth + 1 : Nat) : Int) := by omega
      generalize ((ks.depth + 1 : Nat) : Int) = q2 at *
      have HB2 := Lib.hid (bnext hb1 hb2)
      clear hb1 hb2
      go_wp2
      go_ret
      exact ⟨ret_bool HN.out.symm, HB2.out⟩
  · have HN := Lib.hid (exprOk_size (P := P) (x := ⟨k, n, p, c, ks⟩) (vars := vars) (funcs := funcs) hs)
    have hl : leftL ks (400 - 1) < 0 := by
      have := leftL_ok ks (400 - 1) (by omega)
      omega
    go_enter Tryz.func68, Tryz.ntmps68
    go_wp2_with fail
    refine (vars_any _ _).mono ?_; rintro e w' ⟨rfl, rfl⟩
    rw [HV.out]
    go_wp2_with fail
    refine (in_any _ _ _ _).mono ?_; rintro e w' ⟨rfl, rfl⟩
    rw [HF.out]
    go_wp2_with fail
    refine (left_any (ks.size + 1) ks (by omega) k n p c b o B 400 w HE.out hB hsz (by omega) (by omega)).mono ?_; rintro e w1 ⟨rfl, hb1⟩
    generalize leftL ks (400 - 1) = q at *
    go_wp2
    go_ret
    exact ⟨ret_bool HN.out.symm, hb1⟩

end Go.Proofs.YtgfkglhelfkpoaaGreat

/- Walks of the reference's looks at programs: l02Func, l02Ok, l02Asked. -/
namespace Go.Proofs.YtgfkglhelfkpoaaGreat
open Go.RowKit Plain

theorem sameName (a b : ByteArray) : (a == b) = (a.toList == b.toList) := by
  cases a with
  | mk a =>
  cases b with
  | mk b =>
    rw [ByteArray.toList_eq, ByteArray.toList_eq]
    show (a == b) = (a.toList == b.toList)
    rw [Bool.eq_iff_iff, beq_iff_eq, beq_iff_eq]
    exact ⟨fun h => by rw [h], fun h => Array.toList_inj.1 h⟩
theorem dupe_no {P : List Fn} {f : Fn} {j : Nat} (h : ∀ i g, i < j → P[i]? = some g → (g.name == f.name) = false) : ((P.take j).any fun g => g.name == f.name) = false := by
  rw [List.any_eq_false]
  intro g hg
  obtain ⟨i, hi⟩ := List.getElem?_of_mem hg
  rw [List.getElem?_take] at hi
  split at hi
  · rw [h i g (by assumption) hi]; simp
  · cases hi
theorem dupe_yes {P : List Fn} {f g : Fn} {i j : Nat} (hi : i < j) (hg : P[i]? = some g) (h : (g.name == f.name) = true) : ((P.take j).any fun g => g.name == f.name) = true := by
  rw [List.any_eq_true]
  exact ⟨g, List.mem_of_getElem? (by rw [List.getElem?_take, if_pos hi]; exact hg), h⟩
theorem fnOk_name {P : List Fn} {i : Nat} {f : Fn} (h : nameOk f.name = false) : fnOk P i f = false := by unfold fnOk; rw [h]; rfl
theorem fnOk_dupe {P : List Fn} {i : Nat} {f : Fn} (h : ((P.take i).any fun g => g.name == f.name) = true) : fnOk P i f = false := by unfold fnOk; rw [h]; simp
theorem fnOk_params {P : List Fn} {i : Nat} {f : Fn} (h : inR f.params 0 12 = false) : fnOk P i f = false := by unfold fnOk; rw [h]; simp
theorem fnOk_outs {P : List Fn} {i : Nat} {f : Fn} (h : inR f.outs.len 1 12 = false) : fnOk P i f = false := by unfold fnOk; rw [h]; simp
theorem fnOk_rest {P : List Fn} {i : Nat} {f : Fn} (h1 : nameOk f.name = true) (h2 : ((P.take i).any fun g => g.name == f.name) = false) (h3 : inR f.params 0 12 = true) (h4 : inR f.outs.len 1 12 = true) : fnOk P i f = (exprsOk P f.outs f.params i && decide (f.outs.size ≤ 400)) := by
  unfold fnOk; rw [h1, h2, h3, h4]; simp

/-- are these expressions right, and not more than y nodes? -/
def okR (P : List Fn) (es : Es) (vars funcs y : Int) : Bool := exprsOk P es vars funcs && decide ((es.size : Int) ≤ y)
theorem okR_cons {P : List Fn} {k n p c : Int} {ks r : Es} {vars funcs y : Int} : okR P (.cons k n p c ks r) vars funcs y = (exprOk P ⟨k, n, p, c, ks⟩ vars funcs && okR P r vars funcs (y - 1 - ks.size)) := by
  have e : decide (((Es.cons k n p c ks r).size : Int) ≤ y) = decide ((r.size : Int) ≤ y - 1 - ks.size) := by
    exact decide_eq_decide.2 (by simp only [Es.size]; omega)
  unfold okR
  rw [e]
  simp only [exprsOk, Bool.and_assoc]
theorem okR_neg {P : List Fn} {es : Es} {vars funcs y : Int} (h : y < 0) : okR P es vars funcs y = false := by
  unfold okR; rw [decide_eq_false (by omega)]; simp

set_option maxRecDepth 100000 in
set_option maxHeartbeats 2000000 in
theorem funcS_any (P : List Fn) (m : Nat) (f : Fn) (bp op B : Nat) (w : World) (hf : P[m]? = some f) (hP : PrAt w B P bp op) (hB : B ≤ w.heap.size) (hsz : f.outs.size ≤ 1048576) :
    Calls Tryz.prog 138 #[ptr bp op, .int .i64 m] w fun e w' => e = .returned (.bool (fnOk P m f)) ∧ Below w.heap.size w w' := by
  have HP := Lib.hid hP
  obtain ⟨hbp, A, capP, hp0, hPl, hPm, hFS⟩ := hP
  have hml : m < P.length := (List.getElem?_eq_some_iff.1 hf).1
  obtain ⟨bF, oF, rfl, hbF, g0, g1, hnm, KF, cF, g2, hcF, hcFm, bk, ok, hKF, hks⟩ := hFS.get hf
  have HFS := Lib.hid hFS; clear hFS
  have HKS := Lib.hid hks; clear hks
  have hPm' : capP ≤ 9223372036854775807 := by unfold maxLen at hPm; omega
  have hcF' : cF ≤ 9223372036854775807 := by unfold maxLen at hcFm; omega
  have hbw : bF < w.heap.size := by omega
  have hbpw : bp < w.heap.size := by omega
  have hls := Es.len_le_size f.outs
  have HM := Lib.hid hf; clear hf
  cases h1 : nameOk f.name
  · have HN := Lib.hid (fnOk_name (P := P) (i := m) h1)
    have H1 := Lib.hid h1; clear h1
    go_enter Tryz.func138, Tryz.ntmps138
    go_wp2_with fail
    refine (isNameS_any _ _ hnm).mono ?_; rintro e w' ⟨rfl, rfl⟩
    rw [H1.out]
    go_wp2
    go_ret
    exact ⟨ret_bool HN.out.symm, Below.refl _ _⟩
  have H1 := Lib.hid h1; clear h1
  cases h2 : inR f.params 0 12
  · have HN := Lib.hid (fnOk_params (P := P) (i := m) h2)
    have H2 := Lib.hid h2; clear h2
    go_enter Tryz.func138, Tryz.ntmps138
    go_wp2_with fail
    refine (isNameS_any _ _ hnm).mono ?_; rintro e w' ⟨rfl, rfl⟩
    rw [H1.out]
    go_wp2_with fail
    refine (in_any _ _ _ _).mono ?_; rintro e w' ⟨rfl, rfl⟩
    rw [H2.out]
    go_wp2
    go_ret
    exact ⟨ret_bool HN.out.symm, Below.refl _ _⟩
  have H2 := Lib.hid h2; clear h2
  cases h3 : inR f.outs.len 1 12
  · have HN := Lib.hid (fnOk_outs (P := P) (i := m) h3)
    have H3 := Lib.hid h3; clear h3
    go_enter Tryz.func138, Tryz.ntmps138
    go_wp2_with fail
    refine (isNameS_any _ _ hnm).mono ?_; rintro e w' ⟨rfl, rfl⟩
    rw [H1.out]
    go_wp2_with fail
    refine (in_any _ _ _ _).mono ?_; rintro e w' ⟨rfl, rfl⟩
    rw [H2.out]
    go_wp2_with fail
    refine (in_any _ _ _ _).mono ?_; rintro e w' ⟨rfl, rfl⟩
    rw [H3.out]
    go_wp2
    go_ret
    exact ⟨ret_bool HN.out.symm, Below.refl _ _⟩
  have H3 := Lib.hid h3; clear h3
  obtain ⟨F, hF⟩ : ∃ F, F = fnOk P m f := ⟨_, rfl⟩
  rw [← hF]
  have HFF := Lib.hid hF; clear hF
  go_enter Tryz.func138, Tryz.ntmps138
  go_wp2_with fail
  refine (isNameS_any _ _ hnm).mono ?_; rintro e w' ⟨rfl, rfl⟩
  rw [H1.out]
  go_wp2_with fail
  refine (in_any _ _ _ _).mono ?_; rintro e w' ⟨rfl, rfl⟩
  rw [H2.out]
  go_wp2_with fail
  refine (in_any _ _ _ _).mono ?_; rintro e w' ⟨rfl, rfl⟩
  rw [H3.out]
  go_wp2
  go_loopw [6] (fun i wr => ∃ (j : Nat), i = .int .i64 (j : Int) ∧ j ≤ m ∧ Hid (∀ i g, i < j → P[i]? = some g → (g.name == f.name) = false) ∧ Hid (Below w.heap.size w wr)) (fun i _ => m - (intOf i).toNat)
  case atStart => exact ⟨0, by go_num, by omega, fun i g h => absurd h (by omega), Below.refl _ _⟩
  case round =>
    obtain ⟨j, rfl, hj, HD, HB⟩ := hrel
    have hp0' : wr.cell? ⟨bp, op, none⟩ = some (.slice (some ⟨bF, oF, none⟩) P.length capP) := (HB.out.cell (p := ⟨bp, _, none⟩) hbpw).trans hp0
    have g0' : wr.cell? ⟨bF, oF + m * 3, none⟩ = some (.string f.name) := (HB.out.cell (p := ⟨bF, _, none⟩) hbw).trans g0
    have g2' : wr.cell? ⟨bF, oF + m * 3 + 2, none⟩ = some (.slice KF f.outs.len cF) := (HB.out.cell (p := ⟨bF, _, none⟩) hbw).trans g2
    by_cases hlt : j < m
    · obtain ⟨g, hg⟩ : ∃ g, P[j]? = some g := ⟨P[j]'(by omega), List.getElem?_eq_getElem _⟩
      obtain ⟨bG, oG, e0, hbG, q0, _⟩ := HFS.out.get hg
      obtain ⟨rfl, rfl⟩ : bF = bG ∧ oF = oG := by simpa using e0
      have q0' : wr.cell? ⟨bF, oF + j * 3, none⟩ = some (.string g.name) := (HB.out.cell (p := ⟨bF, _, none⟩) hbw).trans q0
      have HG := Lib.hid hg
      clear hg e0
      cases hq : (g.name.toList == f.name.toList)
      · have HD2 : Hid (∀ i g, i < j + 1 → P[i]? = some g → (g.name == f.name) = false) := fun i g' hi hg' => by
          by_cases e : i = j
          · subst e
            have := HG.out
            rw [hg'] at this
            obtain rfl : g' = g := by simpa using this
            rw [sameName]; exact hq
          · exact HD.out i g' (by omega) hg'
        go_wp2_with fail
        go_quiet (fail)
        rename Nat => nq
        have HBn : Hid (Below w.heap.size w (wr.drewN nq)) := below_drewN' HB.out nq
        go_wp2
        go_roundw
        case rel => exact ⟨j + 1, by go_num, by omega, HD2, HBn⟩
        case measure => simp [intOf]; omega
      · have HN : Hid (F = false) := HFF.out.trans (fnOk_dupe (dupe_yes hlt HG.out ((sameName _ _).trans hq)))
        go_wp2_with fail
        go_quiet (fail)
        rename Nat => nq
        have HBn : Hid (Below w.heap.size w (wr.drewN nq)) := below_drewN' HB.out nq
        go_wp2
        go_ret
        exact ⟨ret_bool HN.out.symm, HBn.out⟩
    · obtain rfl : j = m := by omega
      have HF : Hid (okR P f.outs f.params j 400 = F) := by
        show _ = _
        rw [HFF.out, fnOk_rest H1.out (dupe_no HD.out) H2.out H3.out]
        unfold okR
        congr 1
        rw [Bool.eq_iff_iff]; simp only [decide_eq_true_iff]; omega
      clear hlt hj HD HFF
      have HB0 := HB
      clear HB
      obtain ⟨wo, rfl⟩ : ∃ wo : World, wo = wr := ⟨_, rfl⟩
      go_wp2
      go_loopw [7, 8] (fun ll i wr => ∃ (a : Nat) (es' : Es) (y : Int), i = .int .i64 (a : Int) ∧ ll = .int .i64 y ∧ a + es'.len = f.outs.len ∧ 0 ≤ y ∧ y ≤ 400 ∧ Hid (okR P es' f.params j y = F) ∧ Hid (es'.size ≤ f.outs.size) ∧ Hid (ExsAt wr B es' bk (ok + a * 5)) ∧ Hid (Below w.heap.size w wr)) (fun _ i _ => f.outs.len - (intOf i).toNat)
      case atStart => exact ⟨0, f.outs, 400, by go_num, by simp, by omega, by omega, by omega, HF, Nat.le_refl _, by show ExsAt _ _ _ _ _; rw [Nat.zero_mul, Nat.add_zero]; exact HKS.out.below (HB0.out.mono hB), HB0⟩
      case round =>
        clear hp0' g0' g2'
        obtain ⟨a, es', y, rfl, rfl, ha, y0, y1, hy, hsz2, HE, HB⟩ := hrel
        have hp0' : wr.cell? ⟨bp, op, none⟩ = some (.slice (some ⟨bF, oF, none⟩) P.length capP) := (HB.out.cell (p := ⟨bp, _, none⟩) hbpw).trans hp0
        have g1' : wr.cell? ⟨bF, oF + j * 3 + 1, none⟩ = some (.int .i64 f.params) := (HB.out.cell (p := ⟨bF, _, none⟩) hbw).trans g1
        have g2' : wr.cell? ⟨bF, oF + j * 3 + 2, none⟩ = some (.slice KF f.outs.len cF) := (HB.out.cell (p := ⟨bF, _, none⟩) hbw).trans g2
        cases es' with
        | nil =>
          simp only [Es.len] at ha
          go_wp2
          go_ret
          have := hy.out
          exact ⟨ret_bool (by rw [← this]; unfold okR; rw [decide_eq_true (show ((Es.nil.size : Nat) : Int) ≤ y by simpa [Es.size] using y0)]; rfl), HB.out⟩
        | cons kk n' p' c' ks' r =>
          simp only [Es.len] at ha
          have hK := hKF (by omega)
          subst hK
          obtain ⟨hel, hr⟩ := HE.out
          have HEL := Lib.hid hel
          have HR := Lib.hid hr
          have hrs : Hid (r.size ≤ f.outs.size ∧ ks'.size < f.outs.size) := by
            have := hsz2.out
            simp only [Es.size] at this
            exact ⟨by omega, by omega⟩
          clear hel hr HE
          have hy2 := hy.out
          rw [okR_cons] at hy2
          go_wp2_with fail
          refine (left_any (ks'.size + 1) ks' (by omega) kk n' p' c' bk (ok + a * 5) B y wr HEL.out (by have := HB.out.size; omega) (by have := hrs.out; omega) y0 (by omega)).mono ?_; rintro e w2 ⟨rfl, hb2⟩
          have HB2 := Lib.hid (bnext HB.out hb2)
          have hp2 : w2.cell? ⟨bp, op, none⟩ = some (.slice (some ⟨bF, oF, none⟩) P.length capP) := (HB2.out.cell (p := ⟨bp, _, none⟩) hbpw).trans hp0
          have g12 : w2.cell? ⟨bF, oF + j * 3 + 1, none⟩ = some (.int .i64 f.params) := (HB2.out.cell (p := ⟨bF, _, none⟩) hbw).trans g1
          have g22 : w2.cell? ⟨bF, oF + j * 3 + 2, none⟩ = some (.slice (some ⟨bk, ok, none⟩) f.outs.len cF) := (HB2.out.cell (p := ⟨bF, _, none⟩) hbw).trans g2
          by_cases hneg : (ks'.size : Int) ≤ y - 1
          · have hz : leftL ks' (y - 1) = y - 1 - ks'.size := leftL_ge ks' _ hneg
            rw [hz]
            obtain ⟨z, hzz⟩ : ∃ z, z = y - 1 - (ks'.size : Int) := ⟨_, rfl⟩
            rw [← hzz] at hy2 ⊢
            have z0 : 0 ≤ z := by omega
            have z1 : z ≤ 400 := by omega
            have hdz : decide (z < 0) = false := by simp; omega
            have hcall := Lib.hid (fun wx (hx : Below w2.heap.size w2 wx) => exprS_any P ks' kk n' p' c' f.params j bk (ok + a * 5) bp op B wx (ElAt.below HEL.out ((hb2.trans (hx.mono hb2.size)).mono (by have := HB.out.size; omega))) (HP.out.below ((HB2.out.trans (hx.mono HB2.out.size)).mono hB)) (by have := HB2.out.size; have := hx.size; omega) (by have := hrs.out; omega))
            have HRR : Hid (∀ wx, Below w2.heap.size w2 wx → ExsAt wx B r bk (ok + (a + 1) * 5)) := fun wx hx => by
              have := HR.out.below ((hb2.trans (hx.mono hb2.size)).mono (by have := HB.out.size; omega))
              rwa [show ok + a * 5 + 5 = ok + (a + 1) * 5 by omega] at this
            generalize exprOk P ⟨kk, n', p', c', ks'⟩ f.params j = bb at hy2 hcall
            have HY2 := Lib.hid hy2
            clear hy2 hzz hz hneg hb2 HEL HR hp0 g0 g1 g2 hp0' g1' g2' hbw hbpw hnm H1 H2 H3 HFS HKS HM hls HB0 HF HP hPm hPl hbp hbF hB hsz hsz2 hy HB
            go_wp2_with fail
            go_still_tail 15, (by kernel_rfl)
            change wpList _ _ _ _ _ w2.drew
            go_wp2_with fail
            refine (hcall.out _ ((Below.refl _ _).drew)).mono ?_; rintro e w3 ⟨rfl, hb3⟩
            have hb3 := bdrew hb3
            all_goals
              have hb4 := hb3
              have HE1 := Lib.hid (HRR.out _ hb4)
              have HB3 := Lib.hid (bnext HB2.out hb4)
              clear hb4 hb3 HRR hcall hp2 g12 g22
              cases bb
              · have HN2 : Hid (F = false) := by have := HY2.out; rw [Bool.false_and] at this; exact this.symm
                go_wp2
                go_ret
                exact ⟨ret_bool HN2.out.symm, HB3.out⟩
              · have HN2 : Hid (okR P r f.params j z = F) := by have := HY2.out; rw [Bool.true_and] at this; exact this
                go_wp2
                go_roundw
                case rel => exact ⟨a + 1, r, z, by go_num, rfl, by omega, z0, z1, HN2, hrs.out.1, HE1, HB3⟩
                case measure => simp [intOf]; omega
          · have hl : leftL ks' (y - 1) < 0 := by
              have := leftL_ok ks' (y - 1) (by omega)
              omega
            have HN2 : Hid (F = false) := by rw [okR_neg (by omega), Bool.and_false] at hy2; exact hy2.symm
            generalize leftL ks' (y - 1) = q at *
            clear hy2 hb2 hneg
            go_wp2_with fail
            go_quiet (fail)
            rename Nat => nq
            have HB3 : Hid (Below w.heap.size w (w2.drewN nq)) := below_drewN' HB2.out nq
            go_wp2
            go_ret
            exact ⟨ret_bool HN2.out.symm, HB3.out⟩

set_option maxRecDepth 100000 in
set_option maxHeartbeats 1000000 in
theorem okS_any (P : List Fn) (bp op B : Nat) (w : World) (hP : PrAt w B P bp op) (hB : B ≤ w.heap.size) (hsz : fnSize P ≤ 1048576) :
    Calls Tryz.prog 67 #[ptr bp op] w fun e w' => e = .returned (.bool (progOk P)) ∧ Below w.heap.size w w' := by
  have HP := Lib.hid hP
  obtain ⟨hbp, A, capP, hp0, hPl, hPm, _⟩ := hP
  have hPm' : capP ≤ 9223372036854775807 := by unfold maxLen at hPm; omega
  have hbpw : bp < w.heap.size := by omega
  have HSZ := Lib.hid hsz; clear hsz
  by_cases hl : P.length ≤ 16
  · obtain ⟨F, hF⟩ : ∃ F, F = progOk P := ⟨_, rfl⟩
    have HF : Hid (fnsOk P P 0 = F) := by show _ = _; rw [hF]; unfold progOk; rw [decide_eq_true hl]; rfl
    rw [← hF]
    clear hF
    go_enter Tryz.func67, Tryz.ntmps67
    go_wp2
    go_loopw [3] (fun i wr => ∃ (j : Nat) (fs : List Fn), i = .int .i64 (j : Int) ∧ j + fs.length = P.length ∧ Hid (P.drop j = fs) ∧ Hid (fnsOk P fs j = F) ∧ Hid (fnInner fs ≤ fnSize P) ∧ Hid (Below w.heap.size w wr)) (fun i _ => P.length - (intOf i).toNat)
    case atStart => exact ⟨0, P, by go_num, by omega, by show _ = _; simp, HF, by show _ ≤ _; unfold fnSize; omega, Below.refl _ _⟩
    case round =>
      obtain ⟨j, fs, rfl, hj, HD, HY, HS, HB⟩ := hrel
      have hp0' : wr.cell? ⟨bp, op, none⟩ = some (.slice A P.length capP) := (HB.out.cell (p := ⟨bp, _, none⟩) hbpw).trans hp0
      cases fs with
      | nil =>
        simp only [List.length_nil] at hj
        go_wp2
        go_ret
        have := HY.out
        simp only [fnsOk] at this
        exact ⟨ret_bool this, HB.out⟩
      | cons f r =>
        simp only [List.length_cons] at hj
        have hf : P[j]? = some f := by
          have := HD.out
          have h2 : (P.drop j)[0]? = some f := by rw [this]; rfl
          rw [List.getElem?_drop] at h2
          simpa using h2
        have hd : Hid (P.drop (j + 1) = r) := by
          have := HD.out
          show _ = _
          rw [← List.drop_drop, this]; rfl
        have hrs : Hid (fnInner r ≤ fnSize P ∧ f.outs.size ≤ 1048576) := by
          have := HS.out
          have := HSZ.out
          simp only [fnInner, Fn.size] at *
          exact ⟨by omega, by omega⟩
        have hy2 := HY.out
        simp only [fnsOk] at hy2
        have hcall := funcS_any P j f bp op B wr hf (HP.out.below (HB.out.mono hB)) (by have := HB.out.size; omega) hrs.out.2
        generalize fnOk P j f = bb at hy2 hcall
        have HY2 := Lib.hid hy2
        have HCALL := Lib.hid hcall
        clear hcall hy2 hf
        go_wp2_with fail
        refine HCALL.out.mono ?_; rintro e w2 ⟨rfl, hb2⟩
        have HB2 := Lib.hid (bnext HB.out hb2)
        clear hb2 HCALL
        cases bb
        · have HN2 : Hid (F = false) := by have := HY2.out; rw [Bool.false_and] at this; exact this.symm
          go_wp2
          go_ret
          exact ⟨ret_bool HN2.out.symm, HB2.out⟩
        · have HN2 : Hid (fnsOk P r (j + 1) = F) := by have := HY2.out; rw [Bool.true_and] at this; exact this
          go_wp2
          go_roundw
          case rel => exact ⟨j + 1, r, by go_num, by omega, hd, HN2, hrs.out.1, HB2⟩
          case measure => simp [intOf]; omega
  · have HN : Hid (progOk P = false) := by show _ = _; unfold progOk; rw [decide_eq_false hl]; rfl
    go_enter Tryz.func67, Tryz.ntmps67
    go_wp2
    go_ret
    exact ⟨ret_bool HN.out.symm, Below.refl _ _⟩

/-- the code of a program and a function -/
def askV (P : List Fn) (f : Int) : Int := if progOk P then (if inR f 0 ((P.length : Int) - 1) then 0 else 2) else 1

set_option maxHeartbeats 1000000 in
theorem askedS_any (P : List Fn) (f : Int) (bp op B : Nat) (w : World) (hP : PrAt w B P bp op) (hB : B ≤ w.heap.size) (hsz : fnSize P ≤ 1048576) :
    Calls Tryz.prog 105 #[ptr bp op, .int .i64 f] w fun e w' => e = .returned (.int .i64 (askV P f)) ∧ Below w.heap.size w w' := by
  have HP := Lib.hid hP
  obtain ⟨hbp, A, capP, hp0, hPl, hPm, _⟩ := hP
  have hPm' : capP ≤ 9223372036854775807 := by unfold maxLen at hPm; omega
  have hbpw : bp < w.heap.size := by omega
  cases hok : progOk P
  · have HN : Hid (askV P f = 1) := by show _ = _; unfold askV; rw [hok]; rfl
    have HO := Lib.hid hok; clear hok
    go_enter Tryz.func105, Tryz.ntmps105
    go_wp2_with fail
    refine (okS_any P bp op B w HP.out hB hsz).mono ?_; rintro e w1 ⟨rfl, hb1⟩
    rw [HO.out]
    go_wp2
    go_ret
    exact ⟨ret_int HN.out.symm, hb1⟩
  · have HO := Lib.hid hok
    cases hf : inR f 0 ((P.length : Int) - 1)
    all_goals
      have HN : Hid (askV P f = if inR f 0 ((P.length : Int) - 1) then 0 else 2) := by show _ = _; unfold askV; rw [HO.out]; rfl
      have HF := Lib.hid hf
      clear hf
      try clear hok
      go_enter Tryz.func105, Tryz.ntmps105
      go_wp2_with fail
      refine (okS_any P bp op B w HP.out hB hsz).mono ?_; rintro e w1 ⟨rfl, hb1⟩
      rw [HO.out]
      have hp1 : w1.cell? ⟨bp, op, none⟩ = some (.slice A P.length capP) := (hb1.cell (p := ⟨bp, _, none⟩) hbpw).trans hp0
      go_wp2_with fail
      refine (in_any _ _ _ _).mono ?_; rintro e w' ⟨rfl, rfl⟩
      rw [HF.out]
      go_wp2
      go_ret
      exact ⟨ret_int (by rw [HN.out, HF.out]; rfl), hb1⟩

end Go.Proofs.YtgfkglhelfkpoaaGreat
