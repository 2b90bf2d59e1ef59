/- Texts put together: WSv1, WSv2, WSv3. -/
import Derived.Test.YtlnikpjcggfdmaaKJ
import Derived.Deep.RegionHeld3

/- Walks of the reference's evaluator: memory, fail, leaves. -/
namespace Go.Proofs.Ytlnikpjcggfdmaa
open Go.RowKit Plain

/-- what the reference's evaluator asks of memory -/
structure SvIn (w : World) (B bv n : Nat) (P : List Fn) (bp op : Nat) : Prop where
  prog : PrAt w B P bp op
  blow : B ≤ bv
  lt : bv < w.heap.size
  ok : progOk P = true
  n0 : 1 ≤ n
  n1 : n ≤ 13
theorem SvIn.only {w w' : World} {B bv n : Nat} {P : List Fn} {bp op : Nat} (h : SvIn w B bv n P bp op) (ho : Only (fun q => q = bv) w w') : SvIn w' B bv n P bp op :=
  ⟨h.prog.below (only_below ho h.blow h.lt), h.blow, Nat.lt_of_lt_of_le h.lt ho.size, h.ok, h.n0, h.n1⟩
abbrev hdS (n bp op : Nat) : List Value := [ptr bp op, .int .i64 n]
/-- what an evaluation of a node asks -/
structure SdIn (w : World) (B bv n : Nat) (P : List Fn) (fn : Int) (x : Nd) (b o : Nat) (A : Option Addr) (env : List (List Int)) (ecap : Nat) : Prop where
  node : ElAt w B x.k x.n x.p x.c x.ks b o
  envA : EnvAt w bv n A env
  el : env.length ≤ ecap
  em : ecap ≤ maxLen
  big : env.length + x.ks.depth ≤ 1000000
  size : x.ks.size ≤ 400
  form : formed P fn env.length x = true
  f0 : 0 ≤ fn
  f1 : fn ≤ P.length
def ExprC (P : List Fn) (n f : Nat) : Prop := ∀ (x : Nd) (env : List (List Int)) (s : Int) (t : Nat) (c0 fn : Int) (b o B bv : Nat) (A : Option Addr) (ecap bp op : Nat) (w : World), SvIn w B bv n P bp op → Cells w bv 100 (hdS n bp op ++ [.int .i64 s, .int .i64 c0]) → (c0 = 0 → s = (t : Int) ∧ t ≤ 3000 ∧ 3001 ≤ t + f) →
  SdIn w B bv n P fn x b o A env ecap →
  Calls Try.prog 98 #[.pointer (some ⟨bv, 0, none⟩), ptr b o, .slice A env.length ecap] w (VPost bv n 100 (hdS n bp op) (evC n P f c0 x env t) w)

/-- the code behind a failure -/
def failC (c0 code : Int) : Int := if c0 = 0 then code else c0
theorem fail_any (n bv bp op : Nat) (s c0 code : Int) (w : World) (h0 : 0 < n) (hn : n ≤ 1000000) (hC : Cells w bv 100 (hdS n bp op ++ [.int .i64 s, .int .i64 c0])) :
    Calls Try.prog 114 #[.pointer (some ⟨bv, 0, none⟩), .int .i64 code] w fun e w' => ∃ A cp, e = .returned (.slice A n cp) ∧ RowV w' bv n (.slice A n cp) ((ops n).num 0) ∧ Cells w' bv 100 (hdS n bp op ++ [.int .i64 s, .int .i64 (failC c0 code)]) ∧ Only (fun q => q = bv) w w' := by
  have a3 : w.cell? ⟨bv, 3, none⟩ = some (.int .i64 c0) := by rw [hC.cell]; rfl
  have a1 : w.cell? ⟨bv, 1, none⟩ = some (.int .i64 n) := by rw [hC.cell]; rfl
  have z3 : w.frozen? ⟨bv, 3, none⟩ = false := hC.frozen _
  have al := hC.lt
  by_cases hc : c0 = 0
  · have e0 : (c0 == 0) = true := by simpa using hc
    have HF : Hid (failC c0 code = code) := if_pos hc
    have hsz : (w.setCell ⟨bv, 3, none⟩ (.int .i64 code)).heap.size = w.heap.size := by simp [World.setCell]
    have HO : Hid (Only (fun q => q = bv) w (w.setCell ⟨bv, 3, none⟩ (.int .i64 code))) := ⟨rfl, rfl, rfl, by rw [hsz]; exact Nat.le_refl _, fun q _ hq => Below.heap_setCell _ _ _ _ hq⟩
    have HC : Hid (Cells (w.setCell ⟨bv, 3, none⟩ (.int .i64 code)) bv 100 (hdS n bp op ++ [.int .i64 s, .int .i64 code])) := hC.set_ 3 (.int .i64 code)
    have HCO := Lib.hid hc
    clear hC hsz hc
    go_enter Try.func114, Try.ntmps114
    go_wp2_with fail
    refine (constS_any 0 n _ h0 hn).mono ?_; rintro e w1 h
    obtain ⟨A, cp, rfl, hr, hb⟩ := OPost.of (n := n) (bv := bv) h (by simp only [ops, mk_length]) (isS_num n (by omega) (by omega)) HC.out.lt
    have HR := Lib.hid hr
    have HC1 := Lib.hid (HC.out.next hb)
    have HO1 := Lib.hid (HO.out.trans (Only.of_below hb))
    clear h hr hb
    go_wp2
    go_ret
    exact ⟨A, cp, rfl, HR.out, by rw [HF.out]; exact HC1.out, HO1.out⟩
  · have e0 : (c0 == 0) = false := by simpa using hc
    have HF : Hid (failC c0 code = c0) := if_neg hc
    have HC := Lib.hid hC
    clear hC hc
    go_enter Try.func114, Try.ntmps114
    go_wp2_with fail
    refine (constS_any 0 n _ h0 hn).mono ?_; rintro e w1 h
    obtain ⟨A, cp, rfl, hr, hb⟩ := OPost.of (n := n) (bv := bv) h (by simp only [ops, mk_length]) (isS_num n (by omega) (by omega)) HC.out.lt
    have HR := Lib.hid hr
    have HC1 := Lib.hid (HC.out.next hb)
    have HO1 := Lib.hid (Only.of_below (S := fun q => q = bv) hb)
    clear h hr hb
    go_wp2
    go_ret
    exact ⟨A, cp, rfl, HR.out, by rw [HF.out]; exact HC1.out, HO1.out⟩

set_option maxRecDepth 100000 in
set_option maxHeartbeats 1000000 in
theorem expr_dead (P : List Fn) (n : Nat) (env : List (List Int)) (s c0 : Int) (b o B bv : Nat) (A : Option Addr) (ecap bp op : Nat) (w : World) (hI : SvIn w B bv n P bp op) (hst : Cells w bv 100 (hdS n bp op ++ [.int .i64 s, .int .i64 c0])) (hc : c0 ≠ 0) :
    Calls Try.prog 98 #[.pointer (some ⟨bv, 0, none⟩), ptr b o, .slice A env.length ecap] w (VPost bv n 100 (hdS n bp op) (.err c0) w) := by
  have n0 := hI.n0
  have n1 := hI.n1
  have al := hI.lt
  have a3 : w.cell? ⟨bv, 3, none⟩ = some (.int .i64 c0) := by rw [hst.cell]; rfl
  have hc1 : (c0 != 0) = true := by simpa using hc
  have HF : Hid (failC c0 c0 = c0) := if_neg hc
  have HST := Lib.hid hst
  clear hI hst hc
  go_enter Try.func98, Try.ntmps98
  go_wp2_with fail
  refine (fail_any n bv bp op s c0 c0 w (by omega) (by omega) HST.out).mono ?_; rintro e w1 ⟨A1, cp, rfl, hr, hC1, hO⟩
  have HP : Hid (VPost bv n 100 (hdS n bp op) (.err c0) w (.returned (.slice A1 n cp)) w1) := ⟨_, _, s, failC c0 c0, rfl, hr, hC1, hO, HF.out⟩
  clear hr hC1 hO
  go_wp2
  go_ret
  exact HP.out

set_option maxRecDepth 100000 in
set_option maxHeartbeats 1000000 in
theorem expr_full (P : List Fn) (n : Nat) (env : List (List Int)) (b o B bv : Nat) (A : Option Addr) (ecap bp op : Nat) (w : World) (hI : SvIn w B bv n P bp op) (hst : Cells w bv 100 (hdS n bp op ++ [.int .i64 (3000 : Nat), .int .i64 0])) :
    Calls Try.prog 98 #[.pointer (some ⟨bv, 0, none⟩), ptr b o, .slice A env.length ecap] w (VPost bv n 100 (hdS n bp op) (.err 7) w) := by
  have n0 := hI.n0
  have n1 := hI.n1
  have al := hI.lt
  have a2 : w.cell? ⟨bv, 2, none⟩ = some (.int .i64 3000) := by rw [hst.cell]; rfl
  have a3 : w.cell? ⟨bv, 3, none⟩ = some (.int .i64 0) := by rw [hst.cell]; rfl
  have HST := Lib.hid hst
  clear hI hst
  go_enter Try.func98, Try.ntmps98
  go_wp2_with fail
  refine (fail_any n bv bp op _ 0 7 w (by omega) (by omega) HST.out).mono ?_; rintro e w1 ⟨A1, cp, rfl, hr, hC1, hO⟩
  have HP : Hid (VPost bv n 100 (hdS n bp op) (.err 7) w (.returned (.slice A1 n cp)) w1) := ⟨_, _, _, failC 0 7, rfl, hr, hC1, hO, rfl⟩
  clear hr hC1 hO
  go_wp2
  go_ret
  exact HP.out

/-- the world behind the first steps -/
abbrev svW (w : World) (bv s : Nat) : World := w.setCell ⟨bv, 2, none⟩ (.int .i64 ((s : Int) + 1))
theorem svStep {w : World} {B bv n : Nat} {P : List Fn} {bp op s : Nat} (hI : SvIn w B bv n P bp op) (hst : Cells w bv 100 (hdS n bp op ++ [.int .i64 s, .int .i64 0])) :
    SvIn (svW w bv s) B bv n P bp op ∧ Cells (svW w bv s) bv 100 (hdS n bp op ++ [.int .i64 ((s + 1 : Nat) : Int), .int .i64 0]) ∧ Only (fun q => q = bv) w (svW w bv s) := by
  have hsz : (svW w bv s).heap.size = w.heap.size := by simp [World.setCell]
  have ho : Only (fun q => q = bv) w (svW w bv s) := ⟨rfl, rfl, rfl, by rw [hsz]; exact Nat.le_refl _, fun q _ hq => Below.heap_setCell _ _ _ _ hq⟩
  exact ⟨hI.only ho, hst.set_ 2 (.int .i64 ((s : Int) + 1)), ho⟩

set_option maxRecDepth 100000 in
set_option maxHeartbeats 1000000 in
theorem expr_num (P : List Fn) (x : Nd) (n : Nat) (env : List (List Int)) (s : Nat) (b o B bv : Nat) (A : Option Addr) (ecap bp op : Nat) (w : World) (hI : SvIn w B bv n P bp op) (hst : Cells w bv 100 (hdS n bp op ++ [.int .i64 s, .int .i64 0])) (hE : ElAt w B x.k x.n x.p x.c x.ks b o) (hk : x.k = 1) (hs : s < 3000) (x0 : 0 ≤ x.n) (x1 : x.n ≤ 1000002) :
    Calls Try.prog 98 #[.pointer (some ⟨bv, 0, none⟩), ptr b o, .slice A env.length ecap] w (VPost bv n 100 (hdS n bp op) (.ok ((ops n).num x.n) (s + 1)) w) := by
  have n0 := hI.n0
  have n1 := hI.n1
  have al := hI.lt
  have hB := hI.blow
  have a2 : w.cell? ⟨bv, 2, none⟩ = some (.int .i64 s) := by rw [hst.cell]; rfl
  have a3 : w.cell? ⟨bv, 3, none⟩ = some (.int .i64 0) := by rw [hst.cell]; rfl
  have z2 : w.frozen? ⟨bv, 2, none⟩ = false := hst.frozen _
  have e1 : ((s : Int) == 3000) = false := by simp; omega
  obtain ⟨hI1, hC1, hO1⟩ := svStep hI hst
  obtain ⟨K, cap, hbB, k0, k1, _⟩ := (hE.below (only_below hO1 hB al)).cells
  rw [hk] at k0
  have c1 : (svW w bv s).cell? ⟨bv, 1, none⟩ = some (.int .i64 n) := by rw [hC1.cell]; rfl
  have HC1 := Lib.hid hC1
  have HO1 := Lib.hid hO1
  clear hI hst hI1 hC1 hO1 hE hk
  go_enter Try.func98, Try.ntmps98
  go_wp2_with fail
  change Code.wp _ _ _ _ (svW w bv s)
  generalize svW w bv s = W at *
  go_still_tail 8, (by kernel_rfl)
  change wpList _ _ _ _ _ W.drew
  have hd : Only (fun q => q = bv) W W.drew := (Only.refl _ _).drewN 1
  go_wp2_with fail
  refine (constS_any x.n n _ (by omega) (by omega)).mono ?_; rintro e w1 h
  obtain ⟨A1, cp, rfl, hr, hb⟩ := OPost.of (n := n) (bv := bv) h (by simp only [ops, mk_length]) (isS_num n x0 x1) (HC1.out.drewN 1).lt
  have HP : Hid (VPost bv n 100 (hdS n bp op) (.ok ((ops n).num x.n) (s + 1)) w (.returned (.slice A1 n cp)) w1) := ⟨_, _, _, 0, rfl, hr, (HC1.out.drewN 1).next hb, (HO1.out.trans hd).trans (Only.of_below hb), rfl, rfl, rfl⟩
  clear h hr hb hd
  go_wp2
  go_ret
  exact HP.out

set_option maxRecDepth 100000 in
set_option maxHeartbeats 1000000 in
theorem expr_var (P : List Fn) (x : Nd) (n : Nat) (env : List (List Int)) (s j : Nat) (zs : List Int) (b o B bv : Nat) (A : Option Addr) (ecap bp op : Nat) (w : World) (hI : SvIn w B bv n P bp op) (hst : Cells w bv 100 (hdS n bp op ++ [.int .i64 s, .int .i64 0])) (hE : ElAt w B x.k x.n x.p x.c x.ks b o) (henv : EnvAt w bv n A env) (_hlen : env.length ≤ 9223372036854775807) (hk : x.k = 2) (hn : x.n = j) (hs : s < 3000) (hz : env[j]? = some zs) :
    Calls Try.prog 98 #[.pointer (some ⟨bv, 0, none⟩), ptr b o, .slice A env.length ecap] w (VPost bv n 100 (hdS n bp op) (.ok zs (s + 1)) w) := by
  have n0 := hI.n0
  have n1 := hI.n1
  have al := hI.lt
  have hB := hI.blow
  have a2 : w.cell? ⟨bv, 2, none⟩ = some (.int .i64 s) := by rw [hst.cell]; rfl
  have a3 : w.cell? ⟨bv, 3, none⟩ = some (.int .i64 0) := by rw [hst.cell]; rfl
  have z2 : w.frozen? ⟨bv, 2, none⟩ = false := hst.frozen _
  have e1 : ((s : Int) == 3000) = false := by simp; omega
  obtain ⟨hI1, hC1, hO1⟩ := svStep hI hst
  obtain ⟨K, cap, hbB, k0, k1, _⟩ := (hE.below (only_below hO1 hB al)).cells
  rw [hk] at k0
  rw [hn] at k1
  obtain ⟨b1, o1, A', cp, rfl, hbl, hbn, hcell, hzl, hza, hzs⟩ := henv.get hz
  have hjl : j < env.length := (List.getElem?_eq_some_iff.1 hz).1
  have hcell2 : (svW w bv s).cell? ⟨b1, o1 + j, none⟩ = some (.slice A' n cp) := (hO1.cell (a := ⟨b1, o1 + j, none⟩) hbl hbn).trans hcell
  have HR : Hid (VPost bv n 100 (hdS n bp op) (.ok zs (s + 1)) w (.returned (.slice A' n cp)) (svW w bv s)) := ⟨_, zs, _, 0, rfl, RowV.only ⟨A', cp, rfl, hzl, hza, hzs⟩ hO1, hC1, hO1, rfl, rfl, rfl⟩
  clear hI hst hz hza hzs hcell hI1 hC1 hO1 hE hk hn
  go_enter Try.func98, Try.ntmps98
  go_wp2
  go_ret
  exact HR.out

end Go.Proofs.Ytlnikpjcggfdmaa

/- Walks of the reference's evaluator: conditions and operations. -/
namespace Go.Proofs.Ytlnikpjcggfdmaa
open Go.RowKit Plain

theorem SdIn.kid {w w' : World} {B bv n : Nat} {P : List Fn} {fn : Int} {x y : Nd} {b o bk ok : Nat} {A : Option Addr} {env : List (List Int)} {ecap j : Nat} (h : SdIn w B bv n P fn x b o A env ecap) (ho : Only (fun q => q = bv) w w')
    (hy : x.ks.get? j = some y) (hk : x.k ≠ 9 ∨ j ≠ 1) (hE : ElAt w' B y.k y.n y.p y.c y.ks bk ok) : SdIn w' B bv n P fn y bk ok A env ecap := by
  have hf := formed_kids h.form hy
  have hkv : kidVars x.k env.length j = env.length := by
    rcases hk with hk | hk
    · exact kidVars_ne hk
    · exact kidVars_no hk
  rw [hkv] at hf
  have hd := Es.get?_depth hy
  have hs := Es.get?_size hy
  exact ⟨hE, h.envA.only ho, h.el, h.em, by have := h.big; omega, by have := h.size; omega, hf, h.f0, h.f1⟩
/-- a node with its kids -/
theorem SdIn.parts {w : World} {B bv n : Nat} {P : List Fn} {fn : Int} {x : Nd} {b o : Nat} {A : Option Addr} {env : List (List Int)} {ecap : Nat} (h : SdIn w B bv n P fn x b o A env ecap) : ∃ K cap bk ok, b < B ∧ w.cell? ⟨b, o, none⟩ = some (.int .i64 x.k) ∧ w.cell? ⟨b, o + 1, none⟩ = some (.int .i64 x.n) ∧ w.cell? ⟨b, o + 2, none⟩ = some (.int .i64 x.p) ∧ w.cell? ⟨b, o + 3, none⟩ = some (.int .i64 x.c) ∧
    w.cell? ⟨b, o + 4, none⟩ = some (.slice K x.ks.len cap) ∧ cap ≤ 9223372036854775807 ∧ x.ks.len ≤ cap ∧ (0 < x.ks.len → K = some ⟨bk, ok, none⟩) ∧ ∀ i y, x.ks.get? i = some y → ElAt w B y.k y.n y.p y.c y.ks bk (ok + i * 5) := by
  obtain ⟨hb, h0, h1, h2, h3, K, cap, b', o', h4, hc, hm, hK, hk⟩ := h.node
  exact ⟨K, cap, b', o', hb, h0, h1, h2, h3, h4, by unfold maxLen at hm; omega, hc, hK, fun i y hy => hk.get hy⟩
theorem evAll_one {ks : Es} {a : Nd} (hl : ks.len = 1) (ha : ks.get? 0 = some a) : ks = .cons a.k a.n a.p a.c a.ks .nil := by
  cases ks with
  | nil => simp [Es.len] at hl
  | cons k n p c ks' r =>
    simp only [Es.len] at hl
    have := Es.len0 (es := r) (by omega)
    subst this
    simp only [Es.get?, Option.some.injEq] at ha
    subst ha
    rfl
theorem kids_two {ks : Es} {a b : Nd} (hl : ks.len = 2) (ha : ks.get? 0 = some a) (hb : ks.get? 1 = some b) : ks = .cons a.k a.n a.p a.c a.ks (.cons b.k b.n b.p b.c b.ks .nil) := by
  cases ks with
  | nil => simp [Es.len] at hl
  | cons k n p c ks' r =>
    simp only [Es.len] at hl
    simp only [Es.get?, Option.some.injEq] at ha
    subst ha
    cases r with
    | nil => simp [Es.len] at hl
    | cons k2 n2 p2 c2 ks2 r2 =>
      simp only [Es.len] at hl
      have := Es.len0 (es := r2) (by omega)
      subst this
      simp only [Es.get?, Option.some.injEq] at hb
      subst hb
      rfl
/-- the end of an operation: the value if there was no error -/
theorem opEnd {w w1 w2 : World} {bv n bp op : Nat} {s' c' : Int} {e : Ending} {R : Res (List (List Int))} {rr : Res (List Int)} {zss : List (List Int)} {zs : List Int} (hO : Only (fun q => q = bv) w w1) (hS : Cells w1 bv 100 (hdS n bp op ++ [.int .i64 s', .int .i64 c'])) (h : OPost bv n zs w1 e w2) (hR : ResIs R zss s' c') (hg : ∀ t, R = .ok zss t → rr = .ok zs t) (hb : ∀ c, R = .err c → rr = .err c) :
    ∃ A cp, e = .returned (.slice A n cp) ∧ VPost bv n 100 (hdS n bp op) rr w e w2 := by
  obtain ⟨A, cp, rfl, hr, hb2⟩ := h
  refine ⟨A, cp, rfl, _, zs, s', c', rfl, hr, hS.next hb2, hO.trans (Only.of_below hb2), ?_⟩
  cases R with
  | err c => rw [hb c rfl]; exact hR
  | ok z0 t =>
    obtain ⟨rfl, rfl, hc⟩ := hR
    rw [hg t rfl]
    exact ⟨rfl, rfl, hc⟩
theorem addSn (bv n : Nat) (a b : List Int) (A B : Option Addr) (cap cap' : Nat) (w : World) (ha : SAt w bv n A a) (hb : SAt w bv n B b) (hn : n ≤ 13) (hv : bv < w.heap.size) : Calls Try.prog 118 #[.slice A n cap, .slice B n cap'] w (OPost bv n ((ops n).add a b) w) := by
  obtain ⟨rfl, h2, h3⟩ := ha
  obtain ⟨k1, k2, k3⟩ := hb
  exact (addS_any A B cap cap' a b w h2.ints k2.ints k1 (by omega)).mono fun e w' h => OPost.of h (addL_length _ _) (isS_add _ _) hv
theorem subSn (bv n : Nat) (a b : List Int) (A B : Option Addr) (cap cap' : Nat) (w : World) (ha : SAt w bv n A a) (hb : SAt w bv n B b) (hn : n ≤ 13) (hv : bv < w.heap.size) : Calls Try.prog 119 #[.slice A n cap, .slice B n cap'] w (OPost bv n ((ops n).sub a b) w) := by
  obtain ⟨rfl, h2, h3⟩ := ha
  obtain ⟨k1, k2, k3⟩ := hb
  exact (subS_any A B cap cap' a b w h2.ints k2.ints k1 (by omega)).mono fun e w' h => OPost.of h (mk_length _ _) (IsS.mk_ fun _ => rs_bd _) hv
theorem mulSn (bv n : Nat) (a b : List Int) (A B : Option Addr) (cap cap' : Nat) (w : World) (ha : SAt w bv n A a) (hb : SAt w bv n B b) (hn : n ≤ 13) (hv : bv < w.heap.size) : Calls Try.prog 120 #[.slice A n cap, .slice B n cap'] w (OPost bv n ((ops n).mul a b) w) := by
  obtain ⟨rfl, h2, h3⟩ := ha
  obtain ⟨k1, k2, k3⟩ := hb
  exact (mulS_any A B cap cap' a b w h2.ints k2.ints k1 (by omega)).mono fun e w' h => OPost.of h (mulL_length _ _) (isS_mul _ _) hv
theorem divSn (bv n : Nat) (a b : List Int) (A B : Option Addr) (cap cap' : Nat) (w : World) (ha : SAt w bv n A a) (hb : SAt w bv n B b) (h0 : 1 ≤ n) (hn : n ≤ 13) (hv : bv < w.heap.size) : Calls Try.prog 121 #[.slice A n cap, .slice B n cap'] w (OPost bv n ((ops n).div a b) w) := by
  obtain ⟨rfl, h2, h3⟩ := ha
  obtain ⟨k1, k2, k3⟩ := hb
  exact (divS_any A B cap cap' a b w h2.ints k2.ints k1 (by omega) (by omega) h3).mono fun e w' h => OPost.of h (divL_length _ _) (isS_div _ _) hv
theorem negSn (bv n : Nat) (a : List Int) (A : Option Addr) (cap : Nat) (w : World) (ha : SAt w bv n A a) (hn : n ≤ 13) (hv : bv < w.heap.size) : Calls Try.prog 115 #[.slice A n cap, .int .i64 1000002] w (OPost bv n ((ops n).neg a) w) := by
  obtain ⟨rfl, h2, h3⟩ := ha
  exact (scaleS_any A cap a 1000002 w h2.ints (by omega)).mono fun e w' h => OPost.of h (mk_length _ _) (IsS.mk_ fun _ => tm_bd _ _) hv

set_option maxRecDepth 100000 in
set_option maxHeartbeats 2000000 in
theorem expr_if (P : List Fn) (x : Nd) (n f : Nat) (IH : ExprC P n f) (env : List (List Int)) (t : Nat) (fn : Int) (b o B bv : Nat) (A : Option Addr) (ecap bp op : Nat) (w : World) (hI : SvIn w B bv n P bp op) (hst : Cells w bv 100 (hdS n bp op ++ [.int .i64 t, .int .i64 0])) (hN : SdIn w B bv n P fn x b o A env ecap) (hk : x.k = 8) (hs : t < 3000) (hf : 3001 ≤ t + (f + 1)) :
    Calls Try.prog 98 #[.pointer (some ⟨bv, 0, none⟩), ptr b o, .slice A env.length ecap] w (VPost bv n 100 (hdS n bp op) (ev (ops n) P (f + 1) x env t) w) := by
  have hl3 := formed_op8 hN.form hk
  obtain ⟨a, ha⟩ := Es.get?_some (show 0 < x.ks.len by omega)
  obtain ⟨bd, hb⟩ := Es.get?_some (show 1 < x.ks.len by omega)
  obtain ⟨cd, hc⟩ := Es.get?_some (show 2 < x.ks.len by omega)
  have HEV : Hid (ev (ops n) P (f + 1) x env t = match ev (ops n) P f a env (t + 1) with | .err e => .err e | .ok z s1 => if cf z 0 = 0 then ev (ops n) P f bd env s1 else ev (ops n) P f cd env s1) := by
    show _ = _
    rw [ev, if_neg (by omega), if_neg (by omega), if_neg (by omega), if_pos hk, ha, hb, hc]
    rfl
  have l0 : (0 : Int) < (x.ks.len : Int) := by omega
  have l1 : (1 : Int) < (x.ks.len : Int) := by omega
  have l2 : (2 : Int) < (x.ks.len : Int) := by omega
  have l0n : 0 < x.ks.len := by omega
  have HA := Lib.hid ha
  have HBD := Lib.hid hb
  have HCD := Lib.hid hc
  clear ha hb hc hl3
  obtain ⟨rr, hrr⟩ : ∃ rr, rr = ev (ops n) P (f + 1) x env t := ⟨_, rfl⟩
  rw [← hrr]
  have HRR := Lib.hid (hrr.trans HEV.out)
  clear HEV hrr
  have n0 := hI.n0
  have n1 := hI.n1
  have al := hI.lt
  have hB := hI.blow
  have a2 : w.cell? ⟨bv, 2, none⟩ = some (.int .i64 t) := by rw [hst.cell]; rfl
  have a3 : w.cell? ⟨bv, 3, none⟩ = some (.int .i64 0) := by rw [hst.cell]; rfl
  have z2 : w.frozen? ⟨bv, 2, none⟩ = false := hst.frozen _
  have e1 : ((t : Int) == 3000) = false := by simp; omega
  obtain ⟨hI1, hC1, hO1⟩ := svStep hI hst
  obtain ⟨K, cap, bk, ok, hbB, k0, _, _, _, k4, hcap, hlc, hK, hkid⟩ := hN.parts
  have hK := hK (by omega)
  subst hK
  have hbw : b < w.heap.size := by omega
  have hbn : b ≠ bv := by omega
  rw [hk] at k0
  have HK0 := Lib.hid k0
  have HK4 := Lib.hid k4
  have j0 : (svW w bv t).cell? ⟨b, o, none⟩ = some (.int .i64 8) := (hO1.cell (a := ⟨b, _, none⟩) hbw hbn).trans k0
  have j4 : (svW w bv t).cell? ⟨b, o + 4, none⟩ = some (.slice (some ⟨bk, ok, none⟩) x.ks.len cap) := (hO1.cell (a := ⟨b, _, none⟩) hbw hbn).trans k4
  have HKID := Lib.hid hkid
  have HI1 := Lib.hid hI1
  have HC1 := Lib.hid hC1
  have HO1 := Lib.hid hO1
  have HN := Lib.hid hN
  have HIH := Lib.hid IH
  have HK := Lib.hid hk
  clear hI hst hI1 hC1 hO1 hN IH hkid hk k0 k4
  go_enter Try.func98, Try.ntmps98
  go_wp2_with fail
  have hea := (HKID.out 0 a HA.out).below (only_below HO1.out hB al)
  rw [Nat.zero_mul, Nat.add_zero] at hea
  have HSa := Lib.hid (HN.out.kid HO1.out HA.out (.inr (by omega)) hea)
  clear hea
  refine (HIH.out a env ((t + 1 : Nat) : Int) (t + 1) 0 fn bk ok B bv A ecap bp op _ HI1.out HC1.out (fun _ => ⟨rfl, by omega, by omega⟩) HSa.out).mono ?_; rintro e w1 ⟨v, zs, s', c', rfl, hr, hS1, hO2', hres⟩
  obtain ⟨bz, oz, cz, rfl, hbz, hz0⟩ := hr.first (by omega)
  have hO2 := HO1.out.trans hO2'
  have l0' : w1.cell? ⟨b, o, none⟩ = some (.int .i64 8) := (hO2.cell (a := ⟨b, _, none⟩) hbw hbn).trans HK0.out
  have l4' : w1.cell? ⟨b, o + 4, none⟩ = some (.slice (some ⟨bk, ok, none⟩) x.ks.len cap) := (hO2.cell (a := ⟨b, _, none⟩) hbw hbn).trans HK4.out
  have HR := Lib.hid hr
  have HS1 := Lib.hid hS1
  have HO2 := Lib.hid hO2
  have HI2 := Lib.hid (HI1.out.only hO2')
  have HRES := Lib.hid hres
  clear hr hS1 hO2 hO2' hres
  by_cases hz : cf zs 0 = 0
  · have z0 : (cf zs 0 == 0) = true := by simpa using hz
    have HZ := Lib.hid hz
    have heb := (HKID.out 1 bd HBD.out).below (only_below HO2.out hB al)
    rw [Nat.one_mul] at heb
    have HSb := Lib.hid (HN.out.kid HO2.out HBD.out (.inl (by have := HK.out; omega)) heb)
    clear heb hz
    go_wp2_with fail
    refine (HIH.out bd env s' s'.toNat c' fn bk _ B bv A ecap bp op w1 HI2.out HS1.out (fun h => by
      obtain ⟨_, t1, rfl, h1, h2, _⟩ := evC_next HRES.out h
      exact ⟨by simp, by simp; omega, by simp; omega⟩) HSb.out).mono ?_; rintro e w2 h
    have hq : evC n P f c' bd env s'.toNat = rr := by
      rw [HRR.out]
      by_cases hc0 : c' = 0
      · obtain ⟨_, t1, rfl, h1, h2, h3⟩ := evC_next HRES.out hc0
        rw [h3]
        unfold evC
        rw [if_pos hc0]
        simp only [Int.toNat_natCast]
        rw [if_pos HZ.out]
      · rw [evC_bad HRES.out hc0 rfl]
        unfold evC
        rw [if_neg hc0]
    have HP := Lib.hid (VPost.from HO2.out h hq)
    obtain ⟨v2, _, _, _, rfl, _⟩ := h
    clear hq
    go_wp2
    go_ret
    exact HP.out
  · have z0 : (cf zs 0 == 0) = false := by simpa using hz
    have HZ := Lib.hid hz
    have hec := (HKID.out 2 cd HCD.out).below (only_below HO2.out hB al)
    rw [show 2 * 5 = 10 from rfl] at hec
    have HSc := Lib.hid (HN.out.kid HO2.out HCD.out (.inl (by have := HK.out; omega)) hec)
    clear hec hz
    go_wp2_with fail
    refine (HIH.out cd env s' s'.toNat c' fn bk _ B bv A ecap bp op w1 HI2.out HS1.out (fun h => by
      obtain ⟨_, t1, rfl, h1, h2, _⟩ := evC_next HRES.out h
      exact ⟨by simp, by simp; omega, by simp; omega⟩) HSc.out).mono ?_; rintro e w2 h
    have hq : evC n P f c' cd env s'.toNat = rr := by
      rw [HRR.out]
      by_cases hc0 : c' = 0
      · obtain ⟨_, t1, rfl, h1, h2, h3⟩ := evC_next HRES.out hc0
        rw [h3]
        unfold evC
        rw [if_pos hc0]
        simp only [Int.toNat_natCast]
        rw [if_neg HZ.out]
      · rw [evC_bad HRES.out hc0 rfl]
        unfold evC
        rw [if_neg hc0]
    have HP := Lib.hid (VPost.from HO2.out h hq)
    obtain ⟨v2, _, _, _, rfl, _⟩ := h
    clear hq
    go_wp2
    go_ret
    exact HP.out

set_option maxRecDepth 100000 in
set_option maxHeartbeats 2000000 in
theorem expr_neg (P : List Fn) (x : Nd) (n f : Nat) (IH : ExprC P n f) (env : List (List Int)) (t : Nat) (fn : Int) (b o B bv : Nat) (A : Option Addr) (ecap bp op : Nat) (w : World) (hI : SvIn w B bv n P bp op) (hst : Cells w bv 100 (hdS n bp op ++ [.int .i64 t, .int .i64 0])) (hN : SdIn w B bv n P fn x b o A env ecap) (hk : x.k = 7) (hs : t < 3000) (hf : 3001 ≤ t + (f + 1)) :
    Calls Try.prog 98 #[.pointer (some ⟨bv, 0, none⟩), ptr b o, .slice A env.length ecap] w (VPost bv n 100 (hdS n bp op) (ev (ops n) P (f + 1) x env t) w) := by
  have hl3 := formed_opN (N := 1) hN.form (by rw [hk]; exact .inr (.inl ⟨rfl, rfl⟩))
  obtain ⟨a, ha⟩ := Es.get?_some (show 0 < x.ks.len by omega)
  have hks : x.ks = .cons a.k a.n a.p a.c a.ks .nil := evAll_one hl3 ha
  have HEV : Hid (ev (ops n) P (f + 1) x env t = match evAll (ev (ops n) P f) env x.ks (t + 1) with | .err e => .err e | .ok zs s1 => .ok ((ops n).neg (zs.getD 0 [])) s1) := by
    show _ = _
    rw [ev, if_neg (by omega), if_neg (by omega), if_neg (by omega), if_neg (by omega), if_neg (by omega)]
    cases evAll (ev (ops n) P f) env x.ks (t + 1) with
    | err e => rfl
    | ok zs s1 => simp only; rw [if_neg (by omega), if_neg (by omega), if_neg (by omega), if_neg (by omega), if_neg (by omega), if_pos hk]
  have HM0 : Hid (MidR n P f (evAC n P f 0 x.ks env (t + 1)) x.ks env [] ((t + 1 : Nat) : Int) 0) := MidR.start fun _ => ⟨rfl, by omega, by omega⟩
  have HKS := Lib.hid hks
  have l0 : (0 : Int) < (x.ks.len : Int) := by omega
  have l0n : 0 < x.ks.len := by omega
  have HA := Lib.hid ha
  clear ha hl3 hks
  obtain ⟨rr, hrr⟩ : ∃ rr, rr = ev (ops n) P (f + 1) x env t := ⟨_, rfl⟩
  rw [← hrr]
  have HRR := Lib.hid (hrr.trans HEV.out)
  clear HEV hrr
  have n0 := hI.n0
  have n1 := hI.n1
  have al := hI.lt
  have hB := hI.blow
  have a2 : w.cell? ⟨bv, 2, none⟩ = some (.int .i64 t) := by rw [hst.cell]; rfl
  have a3 : w.cell? ⟨bv, 3, none⟩ = some (.int .i64 0) := by rw [hst.cell]; rfl
  have z2 : w.frozen? ⟨bv, 2, none⟩ = false := hst.frozen _
  have e1 : ((t : Int) == 3000) = false := by simp; omega
  obtain ⟨hI1, hC1, hO1⟩ := svStep hI hst
  obtain ⟨K, cap, bk, ok, hbB, k0, _, _, _, k4, hcap, hlc, hK, hkid⟩ := hN.parts
  have hK := hK (by omega)
  subst hK
  have hbw : b < w.heap.size := by omega
  have hbn : b ≠ bv := by omega
  rw [hk] at k0
  have HK0 := Lib.hid k0
  have HK4 := Lib.hid k4
  have j0 : (svW w bv t).cell? ⟨b, o, none⟩ = some (.int .i64 7) := (hO1.cell (a := ⟨b, _, none⟩) hbw hbn).trans k0
  have j4 : (svW w bv t).cell? ⟨b, o + 4, none⟩ = some (.slice (some ⟨bk, ok, none⟩) x.ks.len cap) := (hO1.cell (a := ⟨b, _, none⟩) hbw hbn).trans k4
  have HKID := Lib.hid hkid
  have HI1 := Lib.hid hI1
  have HC1 := Lib.hid hC1
  have HO1 := Lib.hid hO1
  have HN := Lib.hid hN
  have HIH := Lib.hid IH
  have HK := Lib.hid hk
  clear hI hst hI1 hC1 hO1 hN IH hkid hk k0 k4
  go_enter Try.func98, Try.ntmps98
  go_wp2_with fail
  have hea := (HKID.out 0 a HA.out).below (only_below HO1.out hB al)
  rw [Nat.zero_mul, Nat.add_zero] at hea
  have HSa := Lib.hid (HN.out.kid HO1.out HA.out (.inr (by omega)) hea)
  clear hea
  refine (HIH.out a env ((t + 1 : Nat) : Int) (t + 1) 0 fn bk ok B bv A ecap bp op _ HI1.out HC1.out (fun _ => ⟨rfl, by omega, by omega⟩) HSa.out).mono ?_; rintro e w1 ⟨v, zs, s', c', rfl, hr, hS1, hO2', hres⟩
  obtain ⟨bz, oz, cz, rfl, hbz, hz0⟩ := hr.first (by omega)
  have hO2 := HO1.out.trans hO2'
  have l0' : w1.cell? ⟨b, o, none⟩ = some (.int .i64 7) := (hO2.cell (a := ⟨b, _, none⟩) hbw hbn).trans HK0.out
  have l4' : w1.cell? ⟨b, o + 4, none⟩ = some (.slice (some ⟨bk, ok, none⟩) x.ks.len cap) := (hO2.cell (a := ⟨b, _, none⟩) hbw hbn).trans HK4.out
  have HR := Lib.hid hr
  have HS1 := Lib.hid hS1
  have HO2 := Lib.hid hO2
  have HI2 := Lib.hid (HI1.out.only hO2')
  have HRES := Lib.hid hres
  clear hr hS1 hO2 hO2' hres
  have hm1 : MidR n P f (evAC n P f 0 x.ks env (t + 1)) .nil env [zs] s' c' := by
    have h := HM0.out
    rw [show MidR n P f (evAC n P f 0 x.ks env (t + 1)) x.ks env [] ((t + 1 : Nat) : Int) 0 = MidR n P f (evAC n P f 0 x.ks env (t + 1)) (.cons a.k a.n a.p a.c a.ks .nil) env [] ((t + 1 : Nat) : Int) 0 by rw [← HKS.out]] at h
    exact h.step (zs := zs) HRES.out
  have HRS := Lib.hid hm1.end_
  have hsat : SAt w1 bv n (some ⟨bz, oz, none⟩) zs := by obtain ⟨_, _, h1, h2, h3, h4⟩ := HR.out; injection h1 with h1; subst h1; exact ⟨h2, h3, h4⟩
  have hop := negSn bv n zs (some ⟨bz, oz, none⟩) cz w1 hsat n1 HS1.out.lt
  have HOP := Lib.hid hop
  clear hm1 hsat hop
  go_wp2_with fail
  refine HOP.out.mono ?_; rintro e w2 h
  obtain ⟨Ar, cr, rfl, hp⟩ := opEnd (rr := rr) HO2.out HS1.out h HRS.out (fun t1 h1 => by
    unfold evAC at h1; rw [if_pos rfl] at h1; rw [HRR.out, h1]; rfl) (fun c1 h1 => by
    unfold evAC at h1; rw [if_pos rfl] at h1; rw [HRR.out, h1])
  have HP := Lib.hid hp
  clear hp h
  go_wp2
  go_ret
  exact HP.out

set_option maxRecDepth 100000 in
set_option maxHeartbeats 2000000 in
theorem expr_op3 (P : List Fn) (x : Nd) (n f : Nat) (IH : ExprC P n f) (env : List (List Int)) (t : Nat) (fn : Int) (b o B bv : Nat) (A : Option Addr) (ecap bp op : Nat) (w : World) (hI : SvIn w B bv n P bp op) (hst : Cells w bv 100 (hdS n bp op ++ [.int .i64 t, .int .i64 0])) (hN : SdIn w B bv n P fn x b o A env ecap) (hk : x.k = 3) (hs : t < 3000) (hf : 3001 ≤ t + (f + 1)) :
    Calls Try.prog 98 #[.pointer (some ⟨bv, 0, none⟩), ptr b o, .slice A env.length ecap] w (VPost bv n 100 (hdS n bp op) (ev (ops n) P (f + 1) x env t) w) := by
  have hl3 := formed_opN (N := 2) hN.form (by rw [hk]; exact .inl ⟨by omega, rfl⟩)
  obtain ⟨a, ha⟩ := Es.get?_some (show 0 < x.ks.len by omega)
  obtain ⟨bd, hb⟩ := Es.get?_some (show 1 < x.ks.len by omega)
  have hks := kids_two hl3 ha hb
  have HEV : Hid (ev (ops n) P (f + 1) x env t = match evAll (ev (ops n) P f) env x.ks (t + 1) with | .err e => .err e | .ok zs s1 => .ok ((ops n).add (zs.getD 0 []) (zs.getD 1 [])) s1) := by
    show _ = _
    rw [ev, if_neg (by omega), if_neg (by omega), if_neg (by omega), if_neg (by omega), if_neg (by omega)]
    cases evAll (ev (ops n) P f) env x.ks (t + 1) with
    | err e => rfl
    | ok zs s1 => simp only; rw [if_neg (by omega), if_neg (by omega), if_pos hk]
  have HM0 : Hid (MidR n P f (evAC n P f 0 x.ks env (t + 1)) x.ks env [] ((t + 1 : Nat) : Int) 0) := MidR.start fun _ => ⟨rfl, by omega, by omega⟩
  have HKS := Lib.hid hks
  have l0 : (0 : Int) < (x.ks.len : Int) := by omega
  have l0n : 0 < x.ks.len := by omega
  have l1 : (1 : Int) < (x.ks.len : Int) := by omega
  have l1n : 1 < x.ks.len := by omega
  have ln : (0 : Int) < (n : Int) := by have := hI.n0; omega
  have lnn : 0 < n := by have := hI.n0; omega
  have HA := Lib.hid ha
  have HBD := Lib.hid hb
  clear ha hb hl3 hks
  obtain ⟨rr, hrr⟩ : ∃ rr, rr = ev (ops n) P (f + 1) x env t := ⟨_, rfl⟩
  rw [← hrr]
  have HRR := Lib.hid (hrr.trans HEV.out)
  clear HEV hrr
  have n0 := hI.n0
  have n1 := hI.n1
  have al := hI.lt
  have hB := hI.blow
  have a2 : w.cell? ⟨bv, 2, none⟩ = some (.int .i64 t) := by rw [hst.cell]; rfl
  have a3 : w.cell? ⟨bv, 3, none⟩ = some (.int .i64 0) := by rw [hst.cell]; rfl
  have z2 : w.frozen? ⟨bv, 2, none⟩ = false := hst.frozen _
  have e1 : ((t : Int) == 3000) = false := by simp; omega
  obtain ⟨hI1, hC1, hO1⟩ := svStep hI hst
  obtain ⟨K, cap, bk, ok, hbB, k0, _, _, _, k4, hcap, hlc, hK, hkid⟩ := hN.parts
  have hK := hK (by omega)
  subst hK
  have hbw : b < w.heap.size := by omega
  have hbn : b ≠ bv := by omega
  rw [hk] at k0
  have HK0 := Lib.hid k0
  have HK4 := Lib.hid k4
  have j0 : (svW w bv t).cell? ⟨b, o, none⟩ = some (.int .i64 3) := (hO1.cell (a := ⟨b, _, none⟩) hbw hbn).trans k0
  have j4 : (svW w bv t).cell? ⟨b, o + 4, none⟩ = some (.slice (some ⟨bk, ok, none⟩) x.ks.len cap) := (hO1.cell (a := ⟨b, _, none⟩) hbw hbn).trans k4
  have HKID := Lib.hid hkid
  have HI1 := Lib.hid hI1
  have HC1 := Lib.hid hC1
  have HO1 := Lib.hid hO1
  have HN := Lib.hid hN
  have HIH := Lib.hid IH
  have HK := Lib.hid hk
  clear hI hst hI1 hC1 hO1 hN IH hkid hk k0 k4
  go_enter Try.func98, Try.ntmps98
  go_wp2_with fail
  have hea := (HKID.out 0 a HA.out).below (only_below HO1.out hB al)
  rw [Nat.zero_mul, Nat.add_zero] at hea
  have HSa := Lib.hid (HN.out.kid HO1.out HA.out (.inr (by omega)) hea)
  clear hea
  refine (HIH.out a env ((t + 1 : Nat) : Int) (t + 1) 0 fn bk ok B bv A ecap bp op _ HI1.out HC1.out (fun _ => ⟨rfl, by omega, by omega⟩) HSa.out).mono ?_; rintro e w1 ⟨v, zs, s', c', rfl, hr, hS1, hO2', hres⟩
  obtain ⟨bz, oz, cz, rfl, hbz, hz0⟩ := hr.first (by omega)
  have hO2 := HO1.out.trans hO2'
  have l0' : w1.cell? ⟨b, o, none⟩ = some (.int .i64 3) := (hO2.cell (a := ⟨b, _, none⟩) hbw hbn).trans HK0.out
  have l4' : w1.cell? ⟨b, o + 4, none⟩ = some (.slice (some ⟨bk, ok, none⟩) x.ks.len cap) := (hO2.cell (a := ⟨b, _, none⟩) hbw hbn).trans HK4.out
  have HR := Lib.hid hr
  have HS1 := Lib.hid hS1
  have HO2 := Lib.hid hO2
  have HI2 := Lib.hid (HI1.out.only hO2')
  have HRES := Lib.hid hres
  clear hr hS1 hO2 hO2' hres
  have hm1 : MidR n P f (evAC n P f 0 x.ks env (t + 1)) (.cons bd.k bd.n bd.p bd.c bd.ks .nil) env [zs] s' c' := by
    have h := HM0.out
    rw [show MidR n P f (evAC n P f 0 x.ks env (t + 1)) x.ks env [] ((t + 1 : Nat) : Int) 0 = MidR n P f (evAC n P f 0 x.ks env (t + 1)) (.cons a.k a.n a.p a.c a.ks (.cons bd.k bd.n bd.p bd.c bd.ks .nil)) env [] ((t + 1 : Nat) : Int) 0 by rw [← HKS.out]] at h
    exact h.step (zs := zs) HRES.out
  have HM1 := Lib.hid hm1
  have heb := (HKID.out 1 bd HBD.out).below (only_below HO2.out hB al)
  rw [Nat.one_mul] at heb
  have HSb := Lib.hid (HN.out.kid HO2.out HBD.out (.inl (by have := HK.out; omega)) heb)
  clear hm1 heb
  go_wp2_with fail
  refine (HIH.out bd env s' s'.toNat c' fn bk _ B bv A ecap bp op w1 HI2.out HS1.out HM1.out.now HSb.out).mono ?_; rintro e w2 ⟨v2, zs2, s2, c2, rfl, hr2, hS2, hO3', hres2⟩
  obtain ⟨by_, oy, cy, rfl, hby, hy0⟩ := hr2.first (by omega)
  have hO3 := HO2.out.trans hO3'
  have m0' : w2.cell? ⟨b, o, none⟩ = some (.int .i64 3) := (hO3.cell (a := ⟨b, _, none⟩) hbw hbn).trans HK0.out
  have HRS := Lib.hid ((HM1.out.step (zs := zs2) hres2).end_)
  have hsat1 : SAt w2 bv n (some ⟨bz, oz, none⟩) zs := by obtain ⟨_, _, h1, h2, h3, h4⟩ := HR.out.only hO3'; injection h1 with h1; subst h1; exact ⟨h2, h3, h4⟩
  have hsat2 : SAt w2 bv n (some ⟨by_, oy, none⟩) zs2 := by obtain ⟨_, _, h1, h2, h3, h4⟩ := hr2; injection h1 with h1; subst h1; exact ⟨h2, h3, h4⟩
  have hop := addSn bv n zs zs2 (some ⟨bz, oz, none⟩) (some ⟨by_, oy, none⟩) cz cy w2 hsat1 hsat2 n1 hS2.lt
  have HOP := Lib.hid hop
  have HS2 := Lib.hid hS2
  have HO3 := Lib.hid hO3
  have d3 : w2.cell? ⟨bv, 3, none⟩ = some (.int .i64 c2) := by rw [hS2.cell]; rfl
  have dl := hS2.lt
  clear hr2 hS2 hO3' hO3 hres2 hsat1 hsat2 hop l0' l4'
  go_wp2_with fail
  refine HOP.out.mono ?_; rintro e w3 h
  obtain ⟨Ar, cr, rfl, hp⟩ := opEnd (rr := rr) HO3.out HS2.out h HRS.out (fun t1 h1 => by
    unfold evAC at h1; rw [if_pos rfl] at h1; rw [HRR.out, h1]; rfl) (fun c1 h1 => by
    unfold evAC at h1; rw [if_pos rfl] at h1; rw [HRR.out, h1])
  have HP := Lib.hid hp
  clear hp h
  go_wp2
  go_ret
  exact HP.out

set_option maxRecDepth 100000 in
set_option maxHeartbeats 2000000 in
theorem expr_op4 (P : List Fn) (x : Nd) (n f : Nat) (IH : ExprC P n f) (env : List (List Int)) (t : Nat) (fn : Int) (b o B bv : Nat) (A : Option Addr) (ecap bp op : Nat) (w : World) (hI : SvIn w B bv n P bp op) (hst : Cells w bv 100 (hdS n bp op ++ [.int .i64 t, .int .i64 0])) (hN : SdIn w B bv n P fn x b o A env ecap) (hk : x.k = 4) (hs : t < 3000) (hf : 3001 ≤ t + (f + 1)) :
    Calls Try.prog 98 #[.pointer (some ⟨bv, 0, none⟩), ptr b o, .slice A env.length ecap] w (VPost bv n 100 (hdS n bp op) (ev (ops n) P (f + 1) x env t) w) := by
  have hl3 := formed_opN (N := 2) hN.form (by rw [hk]; exact .inl ⟨by omega, rfl⟩)
  obtain ⟨a, ha⟩ := Es.get?_some (show 0 < x.ks.len by omega)
  obtain ⟨bd, hb⟩ := Es.get?_some (show 1 < x.ks.len by omega)
  have hks := kids_two hl3 ha hb
  have HEV : Hid (ev (ops n) P (f + 1) x env t = match evAll (ev (ops n) P f) env x.ks (t + 1) with | .err e => .err e | .ok zs s1 => .ok ((ops n).sub (zs.getD 0 []) (zs.getD 1 [])) s1) := by
    show _ = _
    rw [ev, if_neg (by omega), if_neg (by omega), if_neg (by omega), if_neg (by omega), if_neg (by omega)]
    cases evAll (ev (ops n) P f) env x.ks (t + 1) with
    | err e => rfl
    | ok zs s1 => simp only; rw [if_neg (by omega), if_neg (by omega), if_neg (by omega), if_pos hk]
  have HM0 : Hid (MidR n P f (evAC n P f 0 x.ks env (t + 1)) x.ks env [] ((t + 1 : Nat) : Int) 0) := MidR.start fun _ => ⟨rfl, by omega, by omega⟩
  have HKS := Lib.hid hks
  have l0 : (0 : Int) < (x.ks.len : Int) := by omega
  have l0n : 0 < x.ks.len := by omega
  have l1 : (1 : Int) < (x.ks.len : Int) := by omega
  have l1n : 1 < x.ks.len := by omega
  have ln : (0 : Int) < (n : Int) := by have := hI.n0; omega
  have lnn : 0 < n := by have := hI.n0; omega
  have HA := Lib.hid ha
  have HBD := Lib.hid hb
  clear ha hb hl3 hks
  obtain ⟨rr, hrr⟩ : ∃ rr, rr = ev (ops n) P (f + 1) x env t := ⟨_, rfl⟩
  rw [← hrr]
  have HRR := Lib.hid (hrr.trans HEV.out)
  clear HEV hrr
  have n0 := hI.n0
  have n1 := hI.n1
  have al := hI.lt
  have hB := hI.blow
  have a2 : w.cell? ⟨bv, 2, none⟩ = some (.int .i64 t) := by rw [hst.cell]; rfl
  have a3 : w.cell? ⟨bv, 3, none⟩ = some (.int .i64 0) := by rw [hst.cell]; rfl
  have z2 : w.frozen? ⟨bv, 2, none⟩ = false := hst.frozen _
  have e1 : ((t : Int) == 3000) = false := by simp; omega
  obtain ⟨hI1, hC1, hO1⟩ := svStep hI hst
  obtain ⟨K, cap, bk, ok, hbB, k0, _, _, _, k4, hcap, hlc, hK, hkid⟩ := hN.parts
  have hK := hK (by omega)
  subst hK
  have hbw : b < w.heap.size := by omega
  have hbn : b ≠ bv := by omega
  rw [hk] at k0
  have HK0 := Lib.hid k0
  have HK4 := Lib.hid k4
  have j0 : (svW w bv t).cell? ⟨b, o, none⟩ = some (.int .i64 4) := (hO1.cell (a := ⟨b, _, none⟩) hbw hbn).trans k0
  have j4 : (svW w bv t).cell? ⟨b, o + 4, none⟩ = some (.slice (some ⟨bk, ok, none⟩) x.ks.len cap) := (hO1.cell (a := ⟨b, _, none⟩) hbw hbn).trans k4
  have HKID := Lib.hid hkid
  have HI1 := Lib.hid hI1
  have HC1 := Lib.hid hC1
  have HO1 := Lib.hid hO1
  have HN := Lib.hid hN
  have HIH := Lib.hid IH
  have HK := Lib.hid hk
  clear hI hst hI1 hC1 hO1 hN IH hkid hk k0 k4
  go_enter Try.func98, Try.ntmps98
  go_wp2_with fail
  have hea := (HKID.out 0 a HA.out).below (only_below HO1.out hB al)
  rw [Nat.zero_mul, Nat.add_zero] at hea
  have HSa := Lib.hid (HN.out.kid HO1.out HA.out (.inr (by omega)) hea)
  clear hea
  refine (HIH.out a env ((t + 1 : Nat) : Int) (t + 1) 0 fn bk ok B bv A ecap bp op _ HI1.out HC1.out (fun _ => ⟨rfl, by omega, by omega⟩) HSa.out).mono ?_; rintro e w1 ⟨v, zs, s', c', rfl, hr, hS1, hO2', hres⟩
  obtain ⟨bz, oz, cz, rfl, hbz, hz0⟩ := hr.first (by omega)
  have hO2 := HO1.out.trans hO2'
  have l0' : w1.cell? ⟨b, o, none⟩ = some (.int .i64 4) := (hO2.cell (a := ⟨b, _, none⟩) hbw hbn).trans HK0.out
  have l4' : w1.cell? ⟨b, o + 4, none⟩ = some (.slice (some ⟨bk, ok, none⟩) x.ks.len cap) := (hO2.cell (a := ⟨b, _, none⟩) hbw hbn).trans HK4.out
  have HR := Lib.hid hr
  have HS1 := Lib.hid hS1
  have HO2 := Lib.hid hO2
  have HI2 := Lib.hid (HI1.out.only hO2')
  have HRES := Lib.hid hres
  clear hr hS1 hO2 hO2' hres
  have hm1 : MidR n P f (evAC n P f 0 x.ks env (t + 1)) (.cons bd.k bd.n bd.p bd.c bd.ks .nil) env [zs] s' c' := by
    have h := HM0.out
    rw [show MidR n P f (evAC n P f 0 x.ks env (t + 1)) x.ks env [] ((t + 1 : Nat) : Int) 0 = MidR n P f (evAC n P f 0 x.ks env (t + 1)) (.cons a.k a.n a.p a.c a.ks (.cons bd.k bd.n bd.p bd.c bd.ks .nil)) env [] ((t + 1 : Nat) : Int) 0 by rw [← HKS.out]] at h
    exact h.step (zs := zs) HRES.out
  have HM1 := Lib.hid hm1
  have heb := (HKID.out 1 bd HBD.out).below (only_below HO2.out hB al)
  rw [Nat.one_mul] at heb
  have HSb := Lib.hid (HN.out.kid HO2.out HBD.out (.inl (by have := HK.out; omega)) heb)
  clear hm1 heb
  go_wp2_with fail
  refine (HIH.out bd env s' s'.toNat c' fn bk _ B bv A ecap bp op w1 HI2.out HS1.out HM1.out.now HSb.out).mono ?_; rintro e w2 ⟨v2, zs2, s2, c2, rfl, hr2, hS2, hO3', hres2⟩
  obtain ⟨by_, oy, cy, rfl, hby, hy0⟩ := hr2.first (by omega)
  have hO3 := HO2.out.trans hO3'
  have m0' : w2.cell? ⟨b, o, none⟩ = some (.int .i64 4) := (hO3.cell (a := ⟨b, _, none⟩) hbw hbn).trans HK0.out
  have HRS := Lib.hid ((HM1.out.step (zs := zs2) hres2).end_)
  have hsat1 : SAt w2 bv n (some ⟨bz, oz, none⟩) zs := by obtain ⟨_, _, h1, h2, h3, h4⟩ := HR.out.only hO3'; injection h1 with h1; subst h1; exact ⟨h2, h3, h4⟩
  have hsat2 : SAt w2 bv n (some ⟨by_, oy, none⟩) zs2 := by obtain ⟨_, _, h1, h2, h3, h4⟩ := hr2; injection h1 with h1; subst h1; exact ⟨h2, h3, h4⟩
  have hop := subSn bv n zs zs2 (some ⟨bz, oz, none⟩) (some ⟨by_, oy, none⟩) cz cy w2 hsat1 hsat2 n1 hS2.lt
  have HOP := Lib.hid hop
  have HS2 := Lib.hid hS2
  have HO3 := Lib.hid hO3
  have d3 : w2.cell? ⟨bv, 3, none⟩ = some (.int .i64 c2) := by rw [hS2.cell]; rfl
  have dl := hS2.lt
  clear hr2 hS2 hO3' hO3 hres2 hsat1 hsat2 hop l0' l4'
  go_wp2_with fail
  refine HOP.out.mono ?_; rintro e w3 h
  obtain ⟨Ar, cr, rfl, hp⟩ := opEnd (rr := rr) HO3.out HS2.out h HRS.out (fun t1 h1 => by
    unfold evAC at h1; rw [if_pos rfl] at h1; rw [HRR.out, h1]; rfl) (fun c1 h1 => by
    unfold evAC at h1; rw [if_pos rfl] at h1; rw [HRR.out, h1])
  have HP := Lib.hid hp
  clear hp h
  go_wp2
  go_ret
  exact HP.out

set_option maxRecDepth 100000 in
set_option maxHeartbeats 2000000 in
theorem expr_op5 (P : List Fn) (x : Nd) (n f : Nat) (IH : ExprC P n f) (env : List (List Int)) (t : Nat) (fn : Int) (b o B bv : Nat) (A : Option Addr) (ecap bp op : Nat) (w : World) (hI : SvIn w B bv n P bp op) (hst : Cells w bv 100 (hdS n bp op ++ [.int .i64 t, .int .i64 0])) (hN : SdIn w B bv n P fn x b o A env ecap) (hk : x.k = 5) (hs : t < 3000) (hf : 3001 ≤ t + (f + 1)) :
    Calls Try.prog 98 #[.pointer (some ⟨bv, 0, none⟩), ptr b o, .slice A env.length ecap] w (VPost bv n 100 (hdS n bp op) (ev (ops n) P (f + 1) x env t) w) := by
  have hl3 := formed_opN (N := 2) hN.form (by rw [hk]; exact .inl ⟨by omega, rfl⟩)
  obtain ⟨a, ha⟩ := Es.get?_some (show 0 < x.ks.len by omega)
  obtain ⟨bd, hb⟩ := Es.get?_some (show 1 < x.ks.len by omega)
  have hks := kids_two hl3 ha hb
  have HEV : Hid (ev (ops n) P (f + 1) x env t = match evAll (ev (ops n) P f) env x.ks (t + 1) with | .err e => .err e | .ok zs s1 => .ok ((ops n).mul (zs.getD 0 []) (zs.getD 1 [])) s1) := by
    show _ = _
    rw [ev, if_neg (by omega), if_neg (by omega), if_neg (by omega), if_neg (by omega), if_neg (by omega)]
    cases evAll (ev (ops n) P f) env x.ks (t + 1) with
    | err e => rfl
    | ok zs s1 => simp only; rw [if_neg (by omega), if_neg (by omega), if_neg (by omega), if_neg (by omega), if_pos hk]
  have HM0 : Hid (MidR n P f (evAC n P f 0 x.ks env (t + 1)) x.ks env [] ((t + 1 : Nat) : Int) 0) := MidR.start fun _ => ⟨rfl, by omega, by omega⟩
  have HKS := Lib.hid hks
  have l0 : (0 : Int) < (x.ks.len : Int) := by omega
  have l0n : 0 < x.ks.len := by omega
  have l1 : (1 : Int) < (x.ks.len : Int) := by omega
  have l1n : 1 < x.ks.len := by omega
  have ln : (0 : Int) < (n : Int) := by have := hI.n0; omega
  have lnn : 0 < n := by have := hI.n0; omega
  have HA := Lib.hid ha
  have HBD := Lib.hid hb
  clear ha hb hl3 hks
  obtain ⟨rr, hrr⟩ : ∃ rr, rr = ev (ops n) P (f + 1) x env t := ⟨_, rfl⟩
  rw [← hrr]
  have HRR := Lib.hid (hrr.trans HEV.out)
  clear HEV hrr
  have n0 := hI.n0
  have n1 := hI.n1
  have al := hI.lt
  have hB := hI.blow
  have a2 : w.cell? ⟨bv, 2, none⟩ = some (.int .i64 t) := by rw [hst.cell]; rfl
  have a3 : w.cell? ⟨bv, 3, none⟩ = some (.int .i64 0) := by rw [hst.cell]; rfl
  have z2 : w.frozen? ⟨bv, 2, none⟩ = false := hst.frozen _
  have e1 : ((t : Int) == 3000) = false := by simp; omega
  obtain ⟨hI1, hC1, hO1⟩ := svStep hI hst
  obtain ⟨K, cap, bk, ok, hbB, k0, _, _, _, k4, hcap, hlc, hK, hkid⟩ := hN.parts
  have hK := hK (by omega)
  subst hK
  have hbw : b < w.heap.size := by omega
  have hbn : b ≠ bv := by omega
  rw [hk] at k0
  have HK0 := Lib.hid k0
  have HK4 := Lib.hid k4
  have j0 : (svW w bv t).cell? ⟨b, o, none⟩ = some (.int .i64 5) := (hO1.cell (a := ⟨b, _, none⟩) hbw hbn).trans k0
  have j4 : (svW w bv t).cell? ⟨b, o + 4, none⟩ = some (.slice (some ⟨bk, ok, none⟩) x.ks.len cap) := (hO1.cell (a := ⟨b, _, none⟩) hbw hbn).trans k4
  have HKID := Lib.hid hkid
  have HI1 := Lib.hid hI1
  have HC1 := Lib.hid hC1
  have HO1 := Lib.hid hO1
  have HN := Lib.hid hN
  have HIH := Lib.hid IH
  have HK := Lib.hid hk
  clear hI hst hI1 hC1 hO1 hN IH hkid hk k0 k4
  go_enter Try.func98, Try.ntmps98
  go_wp2_with fail
  have hea := (HKID.out 0 a HA.out).below (only_below HO1.out hB al)
  rw [Nat.zero_mul, Nat.add_zero] at hea
  have HSa := Lib.hid (HN.out.kid HO1.out HA.out (.inr (by omega)) hea)
  clear hea
  refine (HIH.out a env ((t + 1 : Nat) : Int) (t + 1) 0 fn bk ok B bv A ecap bp op _ HI1.out HC1.out (fun _ => ⟨rfl, by omega, by omega⟩) HSa.out).mono ?_; rintro e w1 ⟨v, zs, s', c', rfl, hr, hS1, hO2', hres⟩
  obtain ⟨bz, oz, cz, rfl, hbz, hz0⟩ := hr.first (by omega)
  have hO2 := HO1.out.trans hO2'
  have l0' : w1.cell? ⟨b, o, none⟩ = some (.int .i64 5) := (hO2.cell (a := ⟨b, _, none⟩) hbw hbn).trans HK0.out
  have l4' : w1.cell? ⟨b, o + 4, none⟩ = some (.slice (some ⟨bk, ok, none⟩) x.ks.len cap) := (hO2.cell (a := ⟨b, _, none⟩) hbw hbn).trans HK4.out
  have HR := Lib.hid hr
  have HS1 := Lib.hid hS1
  have HO2 := Lib.hid hO2
  have HI2 := Lib.hid (HI1.out.only hO2')
  have HRES := Lib.hid hres
  clear hr hS1 hO2 hO2' hres
  have hm1 : MidR n P f (evAC n P f 0 x.ks env (t + 1)) (.cons bd.k bd.n bd.p bd.c bd.ks .nil) env [zs] s' c' := by
    have h := HM0.out
    rw [show MidR n P f (evAC n P f 0 x.ks env (t + 1)) x.ks env [] ((t + 1 : Nat) : Int) 0 = MidR n P f (evAC n P f 0 x.ks env (t + 1)) (.cons a.k a.n a.p a.c a.ks (.cons bd.k bd.n bd.p bd.c bd.ks .nil)) env [] ((t + 1 : Nat) : Int) 0 by rw [← HKS.out]] at h
    exact h.step (zs := zs) HRES.out
  have HM1 := Lib.hid hm1
  have heb := (HKID.out 1 bd HBD.out).below (only_below HO2.out hB al)
  rw [Nat.one_mul] at heb
  have HSb := Lib.hid (HN.out.kid HO2.out HBD.out (.inl (by have := HK.out; omega)) heb)
  clear hm1 heb
  go_wp2_with fail
  refine (HIH.out bd env s' s'.toNat c' fn bk _ B bv A ecap bp op w1 HI2.out HS1.out HM1.out.now HSb.out).mono ?_; rintro e w2 ⟨v2, zs2, s2, c2, rfl, hr2, hS2, hO3', hres2⟩
  obtain ⟨by_, oy, cy, rfl, hby, hy0⟩ := hr2.first (by omega)
  have hO3 := HO2.out.trans hO3'
  have m0' : w2.cell? ⟨b, o, none⟩ = some (.int .i64 5) := (hO3.cell (a := ⟨b, _, none⟩) hbw hbn).trans HK0.out
  have HRS := Lib.hid ((HM1.out.step (zs := zs2) hres2).end_)
  have hsat1 : SAt w2 bv n (some ⟨bz, oz, none⟩) zs := by obtain ⟨_, _, h1, h2, h3, h4⟩ := HR.out.only hO3'; injection h1 with h1; subst h1; exact ⟨h2, h3, h4⟩
  have hsat2 : SAt w2 bv n (some ⟨by_, oy, none⟩) zs2 := by obtain ⟨_, _, h1, h2, h3, h4⟩ := hr2; injection h1 with h1; subst h1; exact ⟨h2, h3, h4⟩
  have hop := mulSn bv n zs zs2 (some ⟨bz, oz, none⟩) (some ⟨by_, oy, none⟩) cz cy w2 hsat1 hsat2 n1 hS2.lt
  have HOP := Lib.hid hop
  have HS2 := Lib.hid hS2
  have HO3 := Lib.hid hO3
  have d3 : w2.cell? ⟨bv, 3, none⟩ = some (.int .i64 c2) := by rw [hS2.cell]; rfl
  have dl := hS2.lt
  clear hr2 hS2 hO3' hO3 hres2 hsat1 hsat2 hop l0' l4'
  go_wp2_with fail
  refine HOP.out.mono ?_; rintro e w3 h
  obtain ⟨Ar, cr, rfl, hp⟩ := opEnd (rr := rr) HO3.out HS2.out h HRS.out (fun t1 h1 => by
    unfold evAC at h1; rw [if_pos rfl] at h1; rw [HRR.out, h1]; rfl) (fun c1 h1 => by
    unfold evAC at h1; rw [if_pos rfl] at h1; rw [HRR.out, h1])
  have HP := Lib.hid hp
  clear hp h
  go_wp2
  go_ret
  exact HP.out

set_option maxRecDepth 100000 in
set_option maxHeartbeats 2000000 in
theorem expr_op6 (P : List Fn) (x : Nd) (n f : Nat) (IH : ExprC P n f) (env : List (List Int)) (t : Nat) (fn : Int) (b o B bv : Nat) (A : Option Addr) (ecap bp op : Nat) (w : World) (hI : SvIn w B bv n P bp op) (hst : Cells w bv 100 (hdS n bp op ++ [.int .i64 t, .int .i64 0])) (hN : SdIn w B bv n P fn x b o A env ecap) (hk : x.k = 6) (hs : t < 3000) (hf : 3001 ≤ t + (f + 1)) :
    Calls Try.prog 98 #[.pointer (some ⟨bv, 0, none⟩), ptr b o, .slice A env.length ecap] w (VPost bv n 100 (hdS n bp op) (ev (ops n) P (f + 1) x env t) w) := by
  have hl3 := formed_opN (N := 2) hN.form (by rw [hk]; exact .inl ⟨by omega, rfl⟩)
  obtain ⟨a, ha⟩ := Es.get?_some (show 0 < x.ks.len by omega)
  obtain ⟨bd, hb⟩ := Es.get?_some (show 1 < x.ks.len by omega)
  have hks := kids_two hl3 ha hb
  have HEV : Hid (ev (ops n) P (f + 1) x env t = match evAll (ev (ops n) P f) env x.ks (t + 1) with | .err e => .err e | .ok zs s1 => if cf (zs.getD 1 []) 0 = 0 then .err 6 else .ok ((ops n).div (zs.getD 0 []) (zs.getD 1 [])) s1) := by
    show _ = _
    rw [ev, if_neg (by omega), if_neg (by omega), if_neg (by omega), if_neg (by omega), if_neg (by omega)]
    cases evAll (ev (ops n) P f) env x.ks (t + 1) with
    | err e => rfl
    | ok zs s1 => simp only; rw [if_neg (by omega), if_neg (by omega), if_neg (by omega), if_neg (by omega), if_neg (by omega), if_neg (by omega)]
  have HM0 : Hid (MidR n P f (evAC n P f 0 x.ks env (t + 1)) x.ks env [] ((t + 1 : Nat) : Int) 0) := MidR.start fun _ => ⟨rfl, by omega, by omega⟩
  have HKS := Lib.hid hks
  have l0 : (0 : Int) < (x.ks.len : Int) := by omega
  have l0n : 0 < x.ks.len := by omega
  have l1 : (1 : Int) < (x.ks.len : Int) := by omega
  have l1n : 1 < x.ks.len := by omega
  have ln : (0 : Int) < (n : Int) := by have := hI.n0; omega
  have lnn : 0 < n := by have := hI.n0; omega
  have HA := Lib.hid ha
  have HBD := Lib.hid hb
  clear ha hb hl3 hks
  obtain ⟨rr, hrr⟩ : ∃ rr, rr = ev (ops n) P (f + 1) x env t := ⟨_, rfl⟩
  rw [← hrr]
  have HRR := Lib.hid (hrr.trans HEV.out)
  clear HEV hrr
  have n0 := hI.n0
  have n1 := hI.n1
  have al := hI.lt
  have hB := hI.blow
  have a2 : w.cell? ⟨bv, 2, none⟩ = some (.int .i64 t) := by rw [hst.cell]; rfl
  have a3 : w.cell? ⟨bv, 3, none⟩ = some (.int .i64 0) := by rw [hst.cell]; rfl
  have z2 : w.frozen? ⟨bv, 2, none⟩ = false := hst.frozen _
  have e1 : ((t : Int) == 3000) = false := by simp; omega
  obtain ⟨hI1, hC1, hO1⟩ := svStep hI hst
  obtain ⟨K, cap, bk, ok, hbB, k0, _, _, _, k4, hcap, hlc, hK, hkid⟩ := hN.parts
  have hK := hK (by omega)
  subst hK
  have hbw : b < w.heap.size := by omega
  have hbn : b ≠ bv := by omega
  rw [hk] at k0
  have HK0 := Lib.hid k0
  have HK4 := Lib.hid k4
  have j0 : (svW w bv t).cell? ⟨b, o, none⟩ = some (.int .i64 6) := (hO1.cell (a := ⟨b, _, none⟩) hbw hbn).trans k0
  have j4 : (svW w bv t).cell? ⟨b, o + 4, none⟩ = some (.slice (some ⟨bk, ok, none⟩) x.ks.len cap) := (hO1.cell (a := ⟨b, _, none⟩) hbw hbn).trans k4
  have HKID := Lib.hid hkid
  have HI1 := Lib.hid hI1
  have HC1 := Lib.hid hC1
  have HO1 := Lib.hid hO1
  have HN := Lib.hid hN
  have HIH := Lib.hid IH
  have HK := Lib.hid hk
  clear hI hst hI1 hC1 hO1 hN IH hkid hk k0 k4
  go_enter Try.func98, Try.ntmps98
  go_wp2_with fail
  have hea := (HKID.out 0 a HA.out).below (only_below HO1.out hB al)
  rw [Nat.zero_mul, Nat.add_zero] at hea
  have HSa := Lib.hid (HN.out.kid HO1.out HA.out (.inr (by omega)) hea)
  clear hea
  refine (HIH.out a env ((t + 1 : Nat) : Int) (t + 1) 0 fn bk ok B bv A ecap bp op _ HI1.out HC1.out (fun _ => ⟨rfl, by omega, by omega⟩) HSa.out).mono ?_; rintro e w1 ⟨v, zs, s', c', rfl, hr, hS1, hO2', hres⟩
  obtain ⟨bz, oz, cz, rfl, hbz, hz0⟩ := hr.first (by omega)
  have hO2 := HO1.out.trans hO2'
  have l0' : w1.cell? ⟨b, o, none⟩ = some (.int .i64 6) := (hO2.cell (a := ⟨b, _, none⟩) hbw hbn).trans HK0.out
  have l4' : w1.cell? ⟨b, o + 4, none⟩ = some (.slice (some ⟨bk, ok, none⟩) x.ks.len cap) := (hO2.cell (a := ⟨b, _, none⟩) hbw hbn).trans HK4.out
  have HR := Lib.hid hr
  have HS1 := Lib.hid hS1
  have HO2 := Lib.hid hO2
  have HI2 := Lib.hid (HI1.out.only hO2')
  have HRES := Lib.hid hres
  clear hr hS1 hO2 hO2' hres
  have hm1 : MidR n P f (evAC n P f 0 x.ks env (t + 1)) (.cons bd.k bd.n bd.p bd.c bd.ks .nil) env [zs] s' c' := by
    have h := HM0.out
    rw [show MidR n P f (evAC n P f 0 x.ks env (t + 1)) x.ks env [] ((t + 1 : Nat) : Int) 0 = MidR n P f (evAC n P f 0 x.ks env (t + 1)) (.cons a.k a.n a.p a.c a.ks (.cons bd.k bd.n bd.p bd.c bd.ks .nil)) env [] ((t + 1 : Nat) : Int) 0 by rw [← HKS.out]] at h
    exact h.step (zs := zs) HRES.out
  have HM1 := Lib.hid hm1
  have heb := (HKID.out 1 bd HBD.out).below (only_below HO2.out hB al)
  rw [Nat.one_mul] at heb
  have HSb := Lib.hid (HN.out.kid HO2.out HBD.out (.inl (by have := HK.out; omega)) heb)
  clear hm1 heb
  go_wp2_with fail
  refine (HIH.out bd env s' s'.toNat c' fn bk _ B bv A ecap bp op w1 HI2.out HS1.out HM1.out.now HSb.out).mono ?_; rintro e w2 ⟨v2, zs2, s2, c2, rfl, hr2, hS2, hO3', hres2⟩
  obtain ⟨by_, oy, cy, rfl, hby, hy0⟩ := hr2.first (by omega)
  have hO3 := HO2.out.trans hO3'
  have m0' : w2.cell? ⟨b, o, none⟩ = some (.int .i64 6) := (hO3.cell (a := ⟨b, _, none⟩) hbw hbn).trans HK0.out
  have HRS := Lib.hid ((HM1.out.step (zs := zs2) hres2).end_)
  have hsat1 : SAt w2 bv n (some ⟨bz, oz, none⟩) zs := by obtain ⟨_, _, h1, h2, h3, h4⟩ := HR.out.only hO3'; injection h1 with h1; subst h1; exact ⟨h2, h3, h4⟩
  have hsat2 : SAt w2 bv n (some ⟨by_, oy, none⟩) zs2 := by obtain ⟨_, _, h1, h2, h3, h4⟩ := hr2; injection h1 with h1; subst h1; exact ⟨h2, h3, h4⟩
  have hop := divSn bv n zs zs2 (some ⟨bz, oz, none⟩) (some ⟨by_, oy, none⟩) cz cy w2 hsat1 hsat2 n0 n1 hS2.lt
  have HOP := Lib.hid hop
  have HS2 := Lib.hid hS2
  have HO3 := Lib.hid hO3
  have d3 : w2.cell? ⟨bv, 3, none⟩ = some (.int .i64 c2) := by rw [hS2.cell]; rfl
  have dl := hS2.lt
  clear hr2 hS2 hO3' hO3 hres2 hsat1 hsat2 hop l0' l4'
  by_cases hc : c2 = 0
  · subst hc
    by_cases hz : cf zs2 0 = 0
    · have hzz : (cf zs2 0 == 0) = true := by simpa using hz
      have HRE : Hid (rr = .err 6) := by
        show _ = _
        obtain ⟨_, t0, _, _, _, h5⟩ := evAC_next HRS.out rfl
        rw [HRR.out, h5]
        exact if_pos hz
      clear hz
      obtain ⟨q, hq⟩ : ∃ q, q = cf zs2 0 := ⟨_, rfl⟩
      rw [← hq] at hy0 hzz
      clear hq
      go_wp2_with fail
      refine (fail_any n bv bp op s2 0 6 w2 (by omega) (by omega) HS2.out).mono ?_; rintro e w3 ⟨Ar, cr, rfl, hr3, hS3, hO4⟩
      have HP : Hid (VPost bv n 100 (hdS n bp op) rr w (.returned (.slice Ar n cr)) w3) := ⟨_, _, s2, failC 0 6, rfl, hr3, hS3, HO3.out.trans hO4, by rw [HRE.out]; rfl⟩
      clear hr3 hS3 hO4
      go_wp2
      go_ret
      exact HP.out
    · have hzz : (cf zs2 0 == 0) = false := by simpa using hz
      have HZ := Lib.hid hz
      clear hz
      obtain ⟨q, hq⟩ : ∃ q, q = cf zs2 0 := ⟨_, rfl⟩
      rw [← hq] at hy0 hzz
      clear hq
      go_wp2_with fail
      refine HOP.out.mono ?_; rintro e w3 h
      obtain ⟨Ar, cr, rfl, hp⟩ := opEnd (rr := rr) HO3.out HS2.out h HRS.out (fun t1 h1 => by
        unfold evAC at h1; rw [if_pos rfl] at h1; rw [HRR.out, h1]; exact if_neg HZ.out) (fun c1 h1 => by
        unfold evAC at h1; rw [if_pos rfl] at h1; rw [HRR.out, h1])
      have HP := Lib.hid hp
      clear hp h
      go_wp2
      go_ret
      exact HP.out
  · have hc1 : (c2 != 0) = true := by simpa using hc
    have HF : Hid (failC c2 6 = c2) := if_neg hc
    have HRE : Hid (rr = .err c2) := by
      show _ = _
      have h := HRS.out
      have hb := evAC_bad h hc rfl
      rw [HRR.out, hb]
    clear hc
    go_wp2_with fail
    refine (fail_any n bv bp op s2 c2 6 w2 (by omega) (by omega) HS2.out).mono ?_; rintro e w3 ⟨Ar, cr, rfl, hr3, hS3, hO4⟩
    have HP : Hid (VPost bv n 100 (hdS n bp op) rr w (.returned (.slice Ar n cr)) w3) := ⟨_, _, s2, failC c2 6, rfl, hr3, hS3, HO3.out.trans hO4, by rw [HRE.out, HF.out]; rfl⟩
    clear hr3 hS3 hO4
    go_wp2
    go_ret
    exact HP.out

end Go.Proofs.Ytlnikpjcggfdmaa

/- Walks of the reference's evaluator: l02Env, let. -/
namespace Go.Proofs.Ytlnikpjcggfdmaa
open Go.RowKit Plain

theorem take_get {α : Type} (l : List α) (k : Nat) (h : k < l.length) : l.take (k + 1) = l.take k ++ [l[k]] := take_snoc' l k _ (List.getElem?_eq_getElem h)
/-- one series more in an own row, as a step of a loop -/
theorem rowStep {w w1 w2 : World} {bv n k cp : Nat} {Av : Option Addr} {u v2 : Value} {zss : List (List Int)} {zs : List Int} {t : TypeId} (h : RowsRow w1 w.heap.size bv n (.slice Av k cp) zss) (hk : zss.length = k) (hu : RowV w1 bv n u zs) (vs : List Value)
    (hvs : w1.ownsRow w.heap.size 25 1 (.slice Av k cp) k vs ∧ ∀ (i : Nat) zs, zss[i]? = some zs → ∃ u, vs[i]? = some u ∧ RowV w1 bv n u zs)
    (hown : w2.ownsRow w.heap.size 25 1 v2 (k + 1) (vs ++ [u])) (hg : (w1.alloc (.cells #[u] t)).grownBy w2 (Value.slice Av k cp).ownBlock) (hb : bv < w.heap.size) (hB : Below w.heap.size w w1) :
    (∃ A2 c2, v2 = .slice A2 (k + 1) c2) ∧ RowsRow w2 w.heap.size bv n v2 (zss ++ [zs]) ∧ Below w.heap.size w w2 := by
  obtain ⟨q1, q2, q3, q4⟩ := RowsRow.push h hk hu vs hvs hown hg hb (by have := hB.size; omega)
  refine ⟨q1, q2, hB.trans ⟨q3.os, q3.tape, q3.output, q3.size, fun i hi => ?_⟩⟩
  by_cases e : i = bv
  · subst e; exact q4
  · exact q3.block i (by have := hB.size; omega) (by omega)

set_option maxRecDepth 100000 in
set_option maxHeartbeats 2000000 in
theorem env_any (bv n : Nat) (A : Option Addr) (env : List (List Int)) (ecap : Nat) (Az : Option Addr) (cz : Nat) (zs : List Int) (w : World) (hE : EnvAt w bv n A env) (hr : RowV w bv n (.slice Az n cz) zs) (hb : bv < w.heap.size) (hl : env.length ≤ 1000000) :
    Calls Try.prog 116 #[.slice A env.length ecap, .slice Az n cz] w fun e w' => ∃ A2 c2, e = .returned (.slice A2 (env.length + 1) c2) ∧ env.length + 1 ≤ c2 ∧ c2 ≤ maxLen ∧ EnvAt w' bv n A2 (env ++ [zs]) ∧ Below w.heap.size w w' := by
  obtain ⟨i0, hi, hz0, hz1, hz2⟩ := info_parts Try.infoIS
  have HE := Lib.hid hE
  have HRV := Lib.hid hr
  clear hE hr
  go_enter Try.func116, Try.ntmps116
  go_wp2
  go_loopw [5, 6] (fun o i wr => ∃ (j : Nat) (Av : Option Addr) (cp : Nat), i = .int .i64 (j : Int) ∧ o = .slice Av j cp ∧ j ≤ env.length ∧ Hid (RowsRow wr w.heap.size bv n (.slice Av j cp) (env.take j)) ∧ Hid (Below w.heap.size w wr)) (fun _ i _ => env.length - (intOf i).toNat)
  case atStart =>
    refine ⟨0, some ⟨w.heap.size, 0, none⟩, 0, by go_num, rfl, Nat.zero_le _, ⟨[], World.ownsRow_lit w #[] 0 (Nat.le_refl _) (by unfold maxLen; omega) (by rfl), fun i zs h => by simp at h⟩, by show Below _ _ _; go_grown⟩
  case round =>
    obtain ⟨j, Av, cp, rfl, rfl, hj, HR, HB⟩ := hrel
    by_cases hlt : j < env.length
    · obtain ⟨b1, o1, A', cap1, rfl, hb1, _, g0, q1, q2, q3⟩ := (HE.out.only (Only.of_below HB.out)).get (List.getElem?_eq_getElem hlt)
      have HU : Hid (RowV wr bv n (.slice A' n cap1) env[j]) := ⟨A', cap1, rfl, q1, q2, q3⟩
      have htl : (env.take j).length = j := by simp; omega
      have HTL := Lib.hid htl
      obtain ⟨vs, hvs⟩ := HR.out
      rw [htl] at hvs
      have HVS := Lib.hid hvs
      clear q1 q2 q3 hvs htl
      have hjl : (j : Int) < (env.length : Int) := by omega
      go_wp2_with (at_builtin; refine wpList_append_own _ rfl _ _ 61 rfl w.heap.size 25 i0 (.slice none 0 0) 1 24 Try.underlying61 hi hz0 hz1 hz2 rfl (by decide) _ j _ rfl (HVS.out.1.alloc _) ⟨wr.heap.size, 0, none⟩ 1 1 [.slice A' n cap1] rfl rfl ?c1 ?c2 ?c3 ?c4 ?c5 ?_)
      try (case c1 => exact cell_one_new _ _ _)
      try (case c2 => intro u hu; simp at hu; subst hu; rfl)
      case c3 => unfold maxLen; omega
      case c4 => omega
      try (case c5 => have := HB.out.size; simp; try omega)
      intro v2 w2 hown hg _
      obtain ⟨⟨A2, c2, rfl⟩, p1, p2⟩ := rowStep HR.out HTL.out HU.out vs HVS.out hown hg hb HB.out
      rw [← take_get env j hlt] at p1
      have HR2 := Lib.hid p1
      have HB2 := Lib.hid p2
      clear hown hg p1 p2 HR HB HU HVS g0
      go_wp2
      go_roundw
      case rel => exact ⟨j + 1, A2, c2, by go_num, rfl, by omega, HR2, HB2⟩
      case measure => simp [intOf]; omega
    · obtain rfl : j = env.length := by omega
      have htl : env.take env.length = env := List.take_length
      have hR2 := HR.out
      rw [htl] at hR2
      have HU := Lib.hid (HRV.out.only (Only.of_below (S := fun q => q = bv) HB.out))
      have HR2 := Lib.hid hR2
      obtain ⟨vs, hvs⟩ := hR2
      have HVS := Lib.hid hvs
      clear hvs htl HR
      go_wp2_with (at_builtin; refine wpList_append_own _ rfl _ _ 61 rfl w.heap.size 25 i0 (.slice none 0 0) 1 24 Try.underlying61 hi hz0 hz1 hz2 rfl (by decide) _ env.length _ rfl (HVS.out.1.alloc _) ⟨wr.heap.size, 0, none⟩ 1 1 [.slice Az n cz] rfl rfl ?d1 ?d2 ?d3 ?d4 ?d5 ?_)
      try (case d1 => exact cell_one_new _ _ _)
      try (case d2 => intro u hu; simp at hu; subst hu; rfl)
      case d3 => unfold maxLen; omega
      case d4 => omega
      try (case d5 => have := HB.out.size; simp; try omega)
      intro v2 w2 hown hg _
      obtain ⟨⟨A2, c2, rfl⟩, p1, p2⟩ := rowStep HR2.out rfl HU.out vs HVS.out hown hg hb HB.out
      obtain ⟨e1, e2, e3⟩ := p1.env (by simp) hb
      have HE3 := Lib.hid e3
      have HB2 := Lib.hid p2
      have HE12 := Lib.hid (And.intro e1 e2)
      clear hown hg p1 p2 HR2 HB HU HVS e1 e2 e3
      go_wp2
      go_ret
      exact ⟨A2, c2, rfl, HE12.out.1, HE12.out.2, HE3.out, HB2.out⟩

set_option maxRecDepth 100000 in
set_option maxHeartbeats 2000000 in
theorem expr_let (P : List Fn) (x : Nd) (n f : Nat) (IH : ExprC P n f) (env : List (List Int)) (t : Nat) (fn : Int) (b o B bv : Nat) (A : Option Addr) (ecap bp op : Nat) (w : World) (hI : SvIn w B bv n P bp op) (hst : Cells w bv 100 (hdS n bp op ++ [.int .i64 t, .int .i64 0])) (hN : SdIn w B bv n P fn x b o A env ecap) (hk : x.k = 9) (hs : t < 3000) (hf : 3001 ≤ t + (f + 1)) :
    Calls Try.prog 98 #[.pointer (some ⟨bv, 0, none⟩), ptr b o, .slice A env.length ecap] w (VPost bv n 100 (hdS n bp op) (ev (ops n) P (f + 1) x env t) w) := by
  have hl3 := formed_op9 hN.form hk
  obtain ⟨a, ha⟩ := Es.get?_some (show 0 < x.ks.len by omega)
  obtain ⟨bd, hb⟩ := Es.get?_some (show 1 < x.ks.len by omega)
  have HEV : Hid (ev (ops n) P (f + 1) x env t = match ev (ops n) P f a env (t + 1) with | .err e => .err e | .ok z s1 => ev (ops n) P f bd (env ++ [z]) s1) := by
    show _ = _
    rw [ev, if_neg (by omega), if_neg (by omega), if_neg (by omega), if_neg (by omega), if_pos hk, ha, hb]
    rfl
  have l0 : (0 : Int) < (x.ks.len : Int) := by omega
  have l1 : (1 : Int) < (x.ks.len : Int) := by omega
  have l0n : 0 < x.ks.len := by omega
  have l1n : 1 < x.ks.len := by omega
  have HA := Lib.hid ha
  have HBD := Lib.hid hb
  have hel := hN.el
  have hbig := hN.big
  have hdp := Es.get?_depth hb
  clear ha hb hl3
  obtain ⟨rr, hrr⟩ : ∃ rr, rr = ev (ops n) P (f + 1) x env t := ⟨_, rfl⟩
  rw [← hrr]
  have HRR := Lib.hid (hrr.trans HEV.out)
  clear HEV hrr
  have n0 := hI.n0
  have n1 := hI.n1
  have al := hI.lt
  have hB := hI.blow
  have a2 : w.cell? ⟨bv, 2, none⟩ = some (.int .i64 t) := by rw [hst.cell]; rfl
  have a3 : w.cell? ⟨bv, 3, none⟩ = some (.int .i64 0) := by rw [hst.cell]; rfl
  have z2 : w.frozen? ⟨bv, 2, none⟩ = false := hst.frozen _
  have e1 : ((t : Int) == 3000) = false := by simp; omega
  obtain ⟨hI1, hC1, hO1⟩ := svStep hI hst
  obtain ⟨K, cap, bk, ok, hbB, k0, _, _, _, k4, hcap, hlc, hK, hkid⟩ := hN.parts
  have hK := hK (by omega)
  subst hK
  have hbw : b < w.heap.size := by omega
  have hbn : b ≠ bv := by omega
  rw [hk] at k0
  have HK0 := Lib.hid k0
  have HK4 := Lib.hid k4
  have j0 : (svW w bv t).cell? ⟨b, o, none⟩ = some (.int .i64 9) := (hO1.cell (a := ⟨b, _, none⟩) hbw hbn).trans k0
  have j4 : (svW w bv t).cell? ⟨b, o + 4, none⟩ = some (.slice (some ⟨bk, ok, none⟩) x.ks.len cap) := (hO1.cell (a := ⟨b, _, none⟩) hbw hbn).trans k4
  have HKID := Lib.hid hkid
  have HI1 := Lib.hid hI1
  have HC1 := Lib.hid hC1
  have HO1 := Lib.hid hO1
  have HN := Lib.hid hN
  have HIH := Lib.hid IH
  have HK := Lib.hid hk
  clear hI hst hI1 hC1 hO1 hN IH hkid hk k0 k4
  go_enter Try.func98, Try.ntmps98
  go_wp2_with fail
  have hea := (HKID.out 0 a HA.out).below (only_below HO1.out hB al)
  rw [Nat.zero_mul, Nat.add_zero] at hea
  have HSa := Lib.hid (HN.out.kid HO1.out HA.out (.inr (by omega)) hea)
  clear hea
  refine (HIH.out a env ((t + 1 : Nat) : Int) (t + 1) 0 fn bk ok B bv A ecap bp op _ HI1.out HC1.out (fun _ => ⟨rfl, by omega, by omega⟩) HSa.out).mono ?_; rintro e w1 ⟨v, zs, s', c', rfl, hr, hS1, hO2', hres⟩
  obtain ⟨bz, oz, cz, rfl, hbz, hz0⟩ := hr.first (by omega)
  have hO2 := HO1.out.trans hO2'
  have l0' : w1.cell? ⟨b, o, none⟩ = some (.int .i64 9) := (hO2.cell (a := ⟨b, _, none⟩) hbw hbn).trans HK0.out
  have l4' : w1.cell? ⟨b, o + 4, none⟩ = some (.slice (some ⟨bk, ok, none⟩) x.ks.len cap) := (hO2.cell (a := ⟨b, _, none⟩) hbw hbn).trans HK4.out
  have HR := Lib.hid hr
  have HS1 := Lib.hid hS1
  have HO2 := Lib.hid hO2
  have HI2 := Lib.hid (HI1.out.only hO2')
  have HRES := Lib.hid hres
  clear hr hS1 hO2 hO2' hres
  have HV1 : Hid (∀ (A2 : Option Addr) (c2 : Nat) (w2 : World), Only (fun q => q = bv) w1 w2 → Cells w2 bv 100 (hdS n bp op ++ [.int .i64 s', .int .i64 c']) → EnvAt w2 bv n A2 (env ++ [zs]) → env.length + 1 ≤ c2 → c2 ≤ maxLen →
      Calls Try.prog 98 #[.pointer (some ⟨bv, 0, none⟩), ptr bk (ok + 5), .slice A2 (env.length + 1) c2] w2 fun e w3 => ∃ v, e = .returned v ∧ VPost bv n 100 (hdS n bp op) rr w (.returned v) w3 ∧ Only (fun q => q = bv) w1 w3) := by
    intro A2 c2 w2 hO hC hE hc2 hm2
    have hform := formed_kids HN.out.form HBD.out
    have hkv : kidVars x.k env.length 1 = ((env ++ [zs]).length : Int) := by
      rw [HK.out, kidVars_yes]; simp
    rw [hkv] at hform
    have heb := (HKID.out 1 bd HBD.out).below (only_below (HO2.out.trans hO) hB al)
    rw [Nat.one_mul] at heb
    have hz := HIH.out bd (env ++ [zs]) s' s'.toNat c' fn bk (ok + 5) B bv A2 c2 bp op w2 (HI2.out.only hO) hC (fun h => by
      obtain ⟨_, t1, rfl, h1, h2, _⟩ := evC_next HRES.out h
      exact ⟨by simp, by simp; omega, by simp; omega⟩) ⟨heb, hE, by simp; omega, hm2, by simp; omega, by have := Es.get?_size HBD.out; have := HN.out.size; omega, hform, HN.out.f0, HN.out.f1⟩
    rw [List.length_append] at hz
    refine Calls.mono hz fun e w3 h => ?_
    have hq : evC n P f c' bd (env ++ [zs]) s'.toNat = rr := by
      rw [HRR.out]
      by_cases hc0 : c' = 0
      · obtain ⟨_, t1, rfl, h1, h2, h3⟩ := evC_next HRES.out hc0
        rw [h3]
        unfold evC
        rw [if_pos hc0]
        simp only [Int.toNat_natCast]
      · rw [evC_bad HRES.out hc0 rfl]
        unfold evC
        rw [if_neg hc0]
    have hO3 : Only (fun q => q = bv) w2 w3 := by obtain ⟨_, _, _, _, _, _, _, h, _⟩ := h; exact h
    have hv := VPost.from (HO2.out.trans hO) h hq
    obtain ⟨v, _, _, _, rfl, _⟩ := h
    exact ⟨v, rfl, hv, hO.trans hO3⟩
  have hbv1 : bv < w1.heap.size := HS1.out.lt
  have HV0 : Hid (Calls Try.prog 116 #[.slice A env.length ecap, .slice (some ⟨bz, oz, none⟩) n cz] w1.drew fun e w2 => ∃ A2 c2, e = .returned (.slice A2 (env.length + 1) c2) ∧ env.length + 1 ≤ c2 ∧ c2 ≤ maxLen ∧ EnvAt w2 bv n A2 (env ++ [zs]) ∧ Only (fun q => q = bv) w1 w2 ∧ Cells w2 bv 100 (hdS n bp op ++ [.int .i64 s', .int .i64 c'])) := by
    have hd : Only (fun q => q = bv) w1 w1.drew := (Only.refl _ w1).drewN 1
    refine (env_any bv n A env ecap _ cz zs w1.drew (HN.out.envA.only (HO2.out.trans hd)) (HR.out.only hd) hbv1 (by omega)).mono ?_
    rintro e w2 ⟨A2, c2, rfl, h1, h2, h3, h4⟩
    exact ⟨A2, c2, rfl, h1, h2, h3, hd.trans (Only.of_below h4), (HS1.out.drewN 1).next h4⟩
  have hbn1 : b < w1.heap.size := by omega
  have HL4 := Lib.hid l4'
  clear hz0
  go_wp2_with fail
  go_region_held3 (fun wx => wx.cell? ⟨b, o + 4, none⟩ = some (.slice (some ⟨bk, ok, none⟩) x.ks.len cap))
    (first | exact HL4.out | go_keep | exact (hP1.cell (a := ⟨b, _, none⟩) hbn1 hbn).trans HL4.out | exact (hP2.cell (a := ⟨b, _, none⟩) hbn1 hbn).trans HL4.out)
    (first
      | (go_at_call 98; have _tk := hP1; (with_reducible refine (HV1.out A2 c2 w2 hP1 hC2 hE2 q1 q2).mono ?_); rintro e w3 ⟨v, rfl, hP, hP2⟩)
      | (go_at_call 116; (with_reducible refine HV0.out.mono ?_); rintro e w2 ⟨A2, c2, rfl, q1, q2, hE2, hP1, hC2⟩))
  have HP := Lib.hid hP
  clear hP hP1 hP2 hC2 hE2 q1 q2
  go_wp2
  go_ret
  exact HP.out

end Go.Proofs.Ytlnikpjcggfdmaa
