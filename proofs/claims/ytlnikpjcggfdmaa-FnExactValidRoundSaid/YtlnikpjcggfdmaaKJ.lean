/- Texts put together: WEv5, WEv6, WEv7, WEv8, WEv9. -/
import Derived.Test.YtlnikpjcggfdmaaKI
import Derived.Deep.RegionHeld3
import Derived.Deep.RegionLawGrows
import Derived.StillTailTactics

/- Walks of the program's evaluator: let. -/
namespace Go.Proofs.Ytlnikpjcggfdmaa
open Go.RowKit Plain

theorem EnvAt.olds {w : World} {bv n : Nat} {A : Option Addr} {env : List (List Int)} (h : EnvAt w bv n A env) : ∃ olds : List Value, olds.length = env.length ∧ (∀ b, A = some b → ∀ (j : Nat) u, olds[j]? = some u → w.cell? (b.add j) = some u) ∧ ∀ (j : Nat) zs, env[j]? = some zs → ∃ u, olds[j]? = some u ∧ RowV w bv n u zs := by
  obtain ⟨l, hl, hq⟩ := list_of env.length (fun j u => ∃ b o, A = some ⟨b, o, none⟩ ∧ w.cell? ⟨b, o + j, none⟩ = some u ∧ ∀ zs, env[j]? = some zs → RowV w bv n u zs) fun i hi => by
    obtain ⟨b, o, e, _, _, hc⟩ := h (by omega)
    obtain ⟨v, h1, h2⟩ := hc i _ (List.getElem?_eq_getElem hi)
    exact ⟨v, b, o, e, h1, fun zs hz => by rw [List.getElem?_eq_getElem hi] at hz; simp at hz; subst hz; exact h2⟩
  refine ⟨l, hl, fun b hb j u hu => ?_, fun j zs hz => ?_⟩
  · obtain ⟨b', o', e, h1, _⟩ := hq j u hu
    rw [hb] at e
    simp at e
    subst e
    rw [addr_add]; exact h1
  · have hj : j < l.length := by have := (List.getElem?_eq_some_iff.1 hz).1; omega
    obtain ⟨_, _, _, _, h3⟩ := hq j _ (List.getElem?_eq_getElem hj)
    exact ⟨l[j], List.getElem?_eq_getElem hj, h3 zs hz⟩
theorem EnvAt.nil0 {w : World} {bv n : Nat} {A : Option Addr} {env : List (List Int)} (h : EnvAt w bv n A env) (hA : A = none) : env.length = 0 := by
  rcases Nat.eq_zero_or_pos env.length with h0 | h0
  · exact h0
  · obtain ⟨b, o, e, _⟩ := h h0
    rw [hA] at e; cases e
/-- one more series in a new row -/
theorem EnvAt.more {w w2 : World} {bv n : Nat} {env : List (List Int)} {olds : List Value} {u v2 : Value} {zs : List Int} (h0 : olds.length = env.length) (h2 : ∀ (j : Nat) zs, env[j]? = some zs → ∃ u, olds[j]? = some u ∧ RowV w bv n u zs) (hu : RowV w bv n u zs) (hown : w2.ownsRow w.heap.size 25 1 v2 (env.length + 1) (olds ++ [u])) (hg : w.grownBy w2 none) (hb : bv < w.heap.size) :
    ∃ A2 c2, v2 = .slice A2 (env.length + 1) c2 ∧ env.length + 1 ≤ c2 ∧ c2 ≤ maxLen ∧ EnvAt w2 bv n A2 (env ++ [zs]) ∧ Only (fun q => q = bv) w w2 := by
  have ho : Only (fun q => q = bv) w w2 := ⟨hg.os, hg.tape, hg.output, hg.size, fun k hk _ => hg.block k hk (by simp)⟩
  obtain ⟨g, c, hv, _⟩ := World.ownsRow.form hown (by omega)
  subst hv
  have hr : RowsRow w2 w.heap.size bv n (.slice (some ⟨g, 0, none⟩) (env.length + 1) c) (env ++ [zs]) := ⟨olds ++ [u], by rw [List.length_append]; exact hown, fun i zs' hz => by
    by_cases hi : i < env.length
    · rw [List.getElem?_append_left hi] at hz
      obtain ⟨u', q1, q2⟩ := h2 i zs' hz
      exact ⟨u', by rw [List.getElem?_append_left (by omega)]; exact q1, q2.only ho⟩
    · have hlt := (List.getElem?_eq_some_iff.1 hz).1
      simp at hlt
      have hik : i = env.length := by omega
      subst hik
      rw [List.getElem?_append_right (by omega)] at hz
      simp at hz
      subst hz
      exact ⟨u, by rw [List.getElem?_append_right (by omega), h0]; simp, hu.only ho⟩⟩
  obtain ⟨q1, q2, q3⟩ := hr.env (by simp) hb
  exact ⟨_, c, rfl, q1, q2, q3, ho⟩

theorem clip_any (A : Option Addr) (n cap : Nat) (w : World) (hn : n ≤ cap) (_hc : cap ≤ maxLen) : Calls Try.prog 128 #[.slice A n cap] w fun e w' => e = .returned (.slice A n n) ∧ w = w' := by
  unfold maxLen at _hc
  cases A with
  | none =>
    go_enter Try.func128, Try.ntmps128
    go_wp2
    go_ret
    exact ⟨rfl, rfl⟩
  | some a =>
    go_enter Try.func128, Try.ntmps128
    go_wp2
    go_ret
    exact ⟨rfl, rfl⟩

/-- the cells that a let's statement reads -/
theorem letKeep {w w' : World} {bv g bk o0 o1 : Nat} {v4 a0 a1 a2 a3 a4 b0 b1 b2 b3 b4 : Value} (h : w.cell? ⟨g, 4, none⟩ = some v4 ∧ w.cell? ⟨bk, o0, none⟩ = some a0 ∧ w.cell? ⟨bk, o0 + 1, none⟩ = some a1 ∧ w.cell? ⟨bk, o0 + 2, none⟩ = some a2 ∧ w.cell? ⟨bk, o0 + 3, none⟩ = some a3 ∧ w.cell? ⟨bk, o0 + 4, none⟩ = some a4 ∧
      w.cell? ⟨bk, o1, none⟩ = some b0 ∧ w.cell? ⟨bk, o1 + 1, none⟩ = some b1 ∧ w.cell? ⟨bk, o1 + 2, none⟩ = some b2 ∧ w.cell? ⟨bk, o1 + 3, none⟩ = some b3 ∧ w.cell? ⟨bk, o1 + 4, none⟩ = some b4)
    (ho : Only (fun q => q = bv) w w') (hg : g < w.heap.size) (hgn : g ≠ bv) (hk : bk < w.heap.size) (hkn : bk ≠ bv) :
    w'.cell? ⟨g, 4, none⟩ = some v4 ∧ w'.cell? ⟨bk, o0, none⟩ = some a0 ∧ w'.cell? ⟨bk, o0 + 1, none⟩ = some a1 ∧ w'.cell? ⟨bk, o0 + 2, none⟩ = some a2 ∧ w'.cell? ⟨bk, o0 + 3, none⟩ = some a3 ∧ w'.cell? ⟨bk, o0 + 4, none⟩ = some a4 ∧
      w'.cell? ⟨bk, o1, none⟩ = some b0 ∧ w'.cell? ⟨bk, o1 + 1, none⟩ = some b1 ∧ w'.cell? ⟨bk, o1 + 2, none⟩ = some b2 ∧ w'.cell? ⟨bk, o1 + 3, none⟩ = some b3 ∧ w'.cell? ⟨bk, o1 + 4, none⟩ = some b4 := by
  obtain ⟨h0, h1, h2, h3, h4, h5, h6, h7, h8, h9, h10⟩ := h
  exact ⟨(ho.cell (a := ⟨g, _, none⟩) hg hgn).trans h0, (ho.cell (a := ⟨bk, _, none⟩) hk hkn).trans h1, (ho.cell (a := ⟨bk, _, none⟩) hk hkn).trans h2, (ho.cell (a := ⟨bk, _, none⟩) hk hkn).trans h3, (ho.cell (a := ⟨bk, _, none⟩) hk hkn).trans h4, (ho.cell (a := ⟨bk, _, none⟩) hk hkn).trans h5,
    (ho.cell (a := ⟨bk, _, none⟩) hk hkn).trans h6, (ho.cell (a := ⟨bk, _, none⟩) hk hkn).trans h7, (ho.cell (a := ⟨bk, _, none⟩) hk hkn).trans h8, (ho.cell (a := ⟨bk, _, none⟩) hk hkn).trans h9, (ho.cell (a := ⟨bk, _, none⟩) hk hkn).trans h10⟩
theorem formed_op9 {P : List Fn} {fn vars : Int} {x : Nd} (h : formed P fn vars x = true) (hk : x.k = 9) : x.ks.len = 2 := by
  unfold formed at h
  rw [Bool.and_eq_true, hk, nodeOk_op (N := 2) (.inl ⟨.inr (.inr (.inr (.inr rfl))), rfl⟩)] at h
  simp only [Bool.and_eq_true, beq_iff_eq] at h
  exact h.1.2.2

/-- the first value of a let is there: what the append asks -/
structure LetMid (w1 : World) (bv n : Nat) (A : Option Addr) (env : List (List Int)) (u : Value) (zs : List Int) (olds : List Value) (t : TypeId) : Prop where
  len : olds.length = env.length
  holds : ∀ b, A = some b → ∀ (j : Nat) v, olds[j]? = some v → (w1.alloc (.cells #[u] t)).cell? (b.add j) = some v
  rows : ∀ (j : Nat) zs, env[j]? = some zs → ∃ v, olds[j]? = some v ∧ RowV (w1.alloc (.cells #[u] t)) bv n v zs
  news : ∀ (j : Nat) v, [u][j]? = some v → (w1.alloc (.cells #[u] t)).cell? ((Addr.mk w1.heap.size 0 none).add j) = some v
  val : RowV (w1.alloc (.cells #[u] t)) bv n u zs
theorem letMid {w1 : World} {bv n : Nat} {A : Option Addr} {env : List (List Int)} {u : Value} {zs : List Int} (t : TypeId) (he : EnvAt w1 bv n A env) (hu : RowV w1 bv n u zs) : ∃ olds, LetMid w1 bv n A env u zs olds t := by
  have hg : Below w1.heap.size w1 (w1.alloc (.cells #[u] t)) := by go_grown
  obtain ⟨olds, h1, h2, h3⟩ := (he.only (Only.of_below hg)).olds
  refine ⟨olds, h1, h2, fun j zs hz => ?_, fun j v hj => ?_, hu.below hg⟩
  · obtain ⟨u', q1, q2⟩ := h3 j zs hz
    exact ⟨u', q1, q2⟩
  · have hc : Cells (w1.alloc (.cells #[u] t)) w1.heap.size t [u] := Cells.new w1 _ _
    rw [addr_add, Nat.zero_add]
    exact (hc.cell j).trans hj
theorem letMore {W w1 w2 : World} {bv n : Nat} {A : Option Addr} {env : List (List Int)} {u v2 : Value} {zs : List Int} {olds : List Value} {t te : TypeId} {C : List Value} (hm : LetMid w1 bv n A env u zs olds t) (hown : w2.ownsRow (w1.alloc (.cells #[u] t)).heap.size 25 1 v2 (env.length + 1) (olds ++ [u])) (hg : (w1.alloc (.cells #[u] t)).grownBy w2 none) (hO1 : Only (fun q => q = bv) W w1) (hb : bv < W.heap.size) (hC : Cells w1 bv te C) :
    ∃ A2 c2, v2 = .slice A2 (env.length + 1) c2 ∧ env.length + 1 ≤ c2 ∧ c2 ≤ maxLen ∧ EnvAt w2 bv n A2 (env ++ [zs]) ∧ Only (fun q => q = bv) W w2 ∧ Cells w2 bv te C := by
  have hgr : Below w1.heap.size w1 (w1.alloc (.cells #[u] t)) := by go_grown
  obtain ⟨A2, c2, h1, h2, h3, h4, h5⟩ := EnvAt.more hm.len hm.rows hm.val hown hg (by have := hO1.size; simp; omega)
  refine ⟨A2, c2, h1, h2, h3, h4, (hO1.trans (Only.of_below hgr)).trans h5, ?_⟩
  have hb2 : Below (w1.alloc (.cells #[u] t)).heap.size (w1.alloc (.cells #[u] t)) w2 := ⟨hg.os, hg.tape, hg.output, hg.size, fun k hk => hg.block k hk (by simp)⟩
  exact (hC.next hgr).next hb2

set_option maxRecDepth 100000 in
set_option maxHeartbeats 4000000 in
theorem value_let (P : List Fn) (x : Nd) (n f : Nat) (IH : ValueC P n f) (env : List (List Int)) (t : Nat) (fn : Int) (K : Option Addr) (cap B bv : Nat) (A PA : Option Addr) (ecap pcap : Nat) (w : World) (hI : EvIn w B bv n P PA pcap) (hst : Cells w bv 109 (hdI n P PA pcap ++ [.int .i64 t, .int .i64 0])) (hN : NdIn w B bv n P fn x K cap A env ecap) (hk : x.k = 9) (hs : t < 3000) (hf : 3001 ≤ t + (f + 1)) :
    Calls Try.prog 106 #[.pointer (some ⟨bv, 0, none⟩), exV x.k x.n x.p x.c K x.ks.len cap, .slice A env.length ecap] w (VPost bv n 109 (hdI n P PA pcap) (ev (ops n) P (f + 1) x env t) w) := by
  obtain ⟨i0, hi, hz0, hz1, hz2⟩ := info_parts Try.infoIS
  have hl3 := formed_op9 hN.form hk
  obtain ⟨a, ha⟩ := Es.get?_some (show 0 < x.ks.len by omega)
  obtain ⟨b, hb⟩ := Es.get?_some (show 1 < x.ks.len by omega)
  have HEV : Hid (ev (ops n) P (f + 1) x env t = match ev (ops n) P f a env (t + 1) with | .err e => .err e | .ok z s1 => ev (ops n) P f b (env ++ [z]) s1) := by
    show _ = _
    rw [ev, if_neg (by omega), if_neg (by omega), if_neg (by omega), if_neg (by omega), if_pos hk, ha, hb]
    rfl
  obtain ⟨rr, hrr⟩ : ∃ rr, rr = ev (ops n) P (f + 1) x env t := ⟨_, rfl⟩
  rw [← hrr]
  have HRR := Lib.hid (hrr.trans HEV.out)
  clear HEV hrr
  have HIH := Lib.hid IH; clear IH
  have n0 := hI.n0
  have n1 := hI.n1
  have al := hI.lt
  have hB := hI.blow
  have a2 : w.cell? ⟨bv, 2, none⟩ = some (.int .i64 t) := by rw [hst.cell]; rfl
  have a3 : w.cell? ⟨bv, 3, none⟩ = some (.int .i64 0) := by rw [hst.cell]; rfl
  have z2 : w.frozen? ⟨bv, 2, none⟩ = false := hst.frozen _
  have e1 : ((t : Int) == 3000) = false := by simp; omega
  obtain ⟨heI, heS, heO, heX⟩ := evStep hI hst 9 x.n x.p x.c K x.ks.len cap
  obtain ⟨bk, ok, rfl, hea⟩ := hN.kids.get ha
  obtain ⟨bk1, ok1, e0, heb⟩ := hN.kids.get hb
  obtain ⟨rfl, rfl⟩ : bk = bk1 ∧ ok = ok1 := by simpa using e0
  have hb0 := only_below heO hB al
  obtain ⟨Ka, capa, hkB, k0, k1, k2, k3, k4, kc, km, kk⟩ := (hea.below hb0).cells
  obtain ⟨Kb, capb, _, l0', l1', l2', l3', l4', lc, lm, lk⟩ := (heb.below hb0).cells
  simp only [Nat.zero_mul, Nat.add_zero, Nat.one_mul] at k0 k1 k2 k3 k4 l0' l1' l2' l3' l4'
  have hkl : bk < w.heap.size := by omega
  have l0 : (0 : Int) < (x.ks.len : Int) := by omega
  have l1 : (1 : Int) < (x.ks.len : Int) := by omega
  have l0n : 0 < x.ks.len := by omega
  have l1n : 1 < x.ks.len := by omega
  have x4 : (evW w bv t 9 x.n x.p x.c (some ⟨bk, ok, none⟩) x.ks.len cap).cell? ⟨w.heap.size, 4, none⟩ = some (.slice (some ⟨bk, ok, none⟩) x.ks.len cap) := by rw [heX.cell]; rfl
  have HS0 := Lib.hid (And.intro x4 (And.intro k0 (And.intro k1 (And.intro k2 (And.intro k3 (And.intro k4 (And.intro l0' (And.intro l1' (And.intro l2' (And.intro l3' l4'))))))))))
  have hWl : w.heap.size < (evW w bv t 9 x.n x.p x.c (some ⟨bk, ok, none⟩) x.ks.len cap).heap.size := heX.lt
  have HNa := Lib.hid (hN.kid heO ha (.inr (by omega)) kk kc km)
  have HLK := Lib.hid lk
  have HLB := Lib.hid (And.intro lc lm)
  have HI := Lib.hid heI
  have HS := Lib.hid heS
  have HO := Lib.hid heO
  have HN := Lib.hid hN
  have HHB := Lib.hid hb
  have HEM := And.intro hN.el hN.em
  have hel := hN.el
  have hem := hN.em
  have hbig := hN.big
  have hnil := fun h => hN.envA.nil0 h
  have HNIL := Lib.hid hnil
  have HEL1 := Es.get?_depth hb
  clear hI hst hea heb heI heS heO heX hN ha hb hb0 kk lk e0 hl3 lc lm x4 hnil HEM
  have HKK := Lib.hid hk
  rw [hk]
  clear hk
  go_enter Try.func106, Try.ntmps106
  go_wp2_with fail
  change Code.wp _ _ _ _ (evW w bv t 9 x.n x.p x.c (some ⟨bk, ok, none⟩) x.ks.len cap)
  generalize evW w bv t 9 x.n x.p x.c (some ⟨bk, ok, none⟩) x.ks.len cap = W at *
  have hkW : bk < W.heap.size := by have := HO.out.size; omega
  have hbvW : bv < W.heap.size := HI.out.lt
  have hg9 : w.heap.size ≠ bv := by omega
  have hk9 : bk ≠ bv := by omega
  have HCL : Hid (∀ wx, Calls Try.prog 128 #[.slice A env.length ecap] wx fun e w' => e = .returned (.slice A env.length env.length) ∧ wx = w') := fun wx => clip_any A env.length ecap wx hel hem
  have HV0 : Hid (Calls Try.prog 106 #[.pointer (some ⟨bv, 0, none⟩), exV a.k a.n a.p a.c Ka a.ks.len capa, .slice A env.length ecap] W.drew fun e w1 => ∃ Az cz zs s' c' olds, e = .returned (.slice Az n cz) ∧ Only (fun q => q = bv) W w1 ∧ LetMid w1 bv n A env (.slice Az n cz) zs olds 25 ∧ Cells w1 bv 109 (hdI n P PA pcap ++ [.int .i64 s', .int .i64 c']) ∧ ResIs (evC n P f 0 a env (t + 1)) zs s' c') := by
    have hd : Only (fun q => q = bv) W W.drew := (Only.refl _ W).drewN 1
    refine (HIH.out a env ((t + 1 : Nat) : Int) (t + 1) 0 fn Ka capa B bv A PA ecap pcap W.drew (HI.out.only hd) (HS.out.drewN 1) (fun _ => ⟨rfl, by omega, by omega⟩) ⟨HNa.out.kids.below (only_below hd hB hbvW), HNa.out.kl, HNa.out.km, HNa.out.envA.only hd, HNa.out.el, HNa.out.em, HNa.out.big, HNa.out.size, HNa.out.form, HNa.out.f0, HNa.out.f1⟩).mono ?_
    rintro e w1 ⟨v, zs, s', c', rfl, hr, hS1, hO1, hres⟩
    have hO2 := hd.trans hO1
    obtain ⟨olds, hmid⟩ := letMid 25 (HNa.out.envA.only hO2) hr
    obtain ⟨Az, cz, rfl, _⟩ := hr
    exact ⟨Az, cz, zs, s', c', olds, rfl, hO2, hmid, hS1, hres⟩
  have HV1 : Hid (∀ (A2 : Option Addr) (c2 : Nat) (w2 : World) (zs : List Int) (s' c' : Int), Only (fun q => q = bv) W w2 → Cells w2 bv 109 (hdI n P PA pcap ++ [.int .i64 s', .int .i64 c']) → ResIs (evC n P f 0 a env (t + 1)) zs s' c' → EnvAt w2 bv n A2 (env ++ [zs]) → env.length + 1 ≤ c2 → c2 ≤ maxLen →
      Calls Try.prog 106 #[.pointer (some ⟨bv, 0, none⟩), exV b.k b.n b.p b.c Kb b.ks.len capb, .slice A2 (env.length + 1) c2] w2 fun e w3 => ∃ v, e = .returned v ∧ VPost bv n 109 (hdI n P PA pcap) rr w (.returned v) w3 ∧ Only (fun q => q = bv) W w3) := by
    intro A2 c2 w2 zs s' c' hO hC hres hE hc2 hm2
    have hform := formed_kids HN.out.form HHB.out
    have hkv : kidVars x.k env.length 1 = ((env ++ [zs]).length : Int) := by
      rw [HKK.out, kidVars_yes]; simp
    rw [hkv] at hform
    have hz := HIH.out b (env ++ [zs]) s' s'.toNat c' fn Kb capb B bv A2 PA c2 pcap w2 (HI.out.only hO) hC (fun h => by
      obtain ⟨_, t1, rfl, h1, h2, _⟩ := evC_next hres h
      exact ⟨by simp, by simp; omega, by simp; omega⟩) ⟨HLK.out.below (only_below hO hB hbvW), HLB.out.1, HLB.out.2, hE, by simp; omega, hm2, by simp; omega, by have := Es.get?_size HHB.out; have := HN.out.size; omega, hform, HN.out.f0, HN.out.f1⟩
    rw [List.length_append] at hz
    refine Calls.mono hz fun e w3 h => ?_
    have hq : evC n P f c' b (env ++ [zs]) s'.toNat = rr := by
      rw [HRR.out]
      by_cases hc0 : c' = 0
      · obtain ⟨_, t1, rfl, h1, h2, h3⟩ := evC_next hres hc0
        rw [h3]
        unfold evC
        rw [if_pos hc0]
        simp only [Int.toNat_natCast]
      · rw [evC_bad hres hc0 rfl]
        unfold evC
        rw [if_neg hc0]
    have hO3 : Only (fun q => q = bv) w2 w3 := by obtain ⟨_, _, _, _, _, _, _, h, _⟩ := h; exact h
    have hv := VPost.from (HO.out.trans hO) h hq
    obtain ⟨v, _, _, _, rfl, _⟩ := h
    exact ⟨v, rfl, hv, hO.trans hO3⟩
  have HB1 : Hid (env.length + 1 ≤ maxLen ∧ (env.length + 1) * 24 ≤ 140737488355328) := ⟨by unfold maxLen; omega, by omega⟩
  go_region_held3 (fun wx => wx.cell? ⟨w.heap.size, 4, none⟩ = some (.slice (some ⟨bk, ok, none⟩) x.ks.len cap) ∧ wx.cell? ⟨bk, ok, none⟩ = some (.int .i64 a.k) ∧ wx.cell? ⟨bk, ok + 1, none⟩ = some (.int .i64 a.n) ∧ wx.cell? ⟨bk, ok + 2, none⟩ = some (.int .i64 a.p) ∧ wx.cell? ⟨bk, ok + 3, none⟩ = some (.int .i64 a.c) ∧ wx.cell? ⟨bk, ok + 4, none⟩ = some (.slice Ka a.ks.len capa) ∧
      wx.cell? ⟨bk, ok + 5, none⟩ = some (.int .i64 b.k) ∧ wx.cell? ⟨bk, ok + 5 + 1, none⟩ = some (.int .i64 b.n) ∧ wx.cell? ⟨bk, ok + 5 + 2, none⟩ = some (.int .i64 b.p) ∧ wx.cell? ⟨bk, ok + 5 + 3, none⟩ = some (.int .i64 b.c) ∧ wx.cell? ⟨bk, ok + 5 + 4, none⟩ = some (.slice Kb b.ks.len capb))
    (first | exact HS0.out | go_keep | exact letKeep HS0.out hO1 hWl hg9 hkW hk9 | exact letKeep HS0.out hO2 hWl hg9 hkW hk9 | exact letKeep HS0.out hO3 hWl hg9 hkW hk9)
    (first
      | (go_at_call 106; have _tk := hO2; (with_reducible refine (HV1.out A2 c2 w2 zs s' c' hO2 hS2 hres q3 q1 q2).mono ?_); rintro e w3 ⟨v, rfl, hP, hO3⟩)
      | (go_at_call 128; refine (HCL.out _).mono ?_; rintro e w' ⟨rfl, rfl⟩)
      | (go_at_call 106; (with_reducible refine HV0.out.mono ?_); rintro e w1 ⟨Az, cz, zs, s', c', olds, rfl, hO1, hmid, hS1, hres⟩)
      | (refine step_append_grows rfl (.tmp 82) (.tmp 90) 61 rfl 25 i0 (.slice none 0 0) 1 24 Try.underlying61 hi hz0 hz1 hz2 rfl (by decide) A env.length env.length olds (by simp [Act.eval]) (fun h => ⟨HNIL.out h, HNIL.out h⟩) (by rw [hmid.len]; omega) hmid.holds ⟨w1.heap.size, 0, none⟩ 1 1 [.slice Az n cz] (by simp [Act.eval]) rfl hmid.news (by intro u hu; simp at hu; subst hu; rfl) (by omega) HB1.out.1 HB1.out.2 ?_; intro v2 w2 hown hgrow; obtain ⟨A2, c2, rfl, q1, q2, q3, hO2', hS2⟩ := letMore hmid hown hgrow hO1 hbvW hS1; have hO2 := hO2'))
  have HP := Lib.hid hP
  clear hP hO1 hO2 hO2' hO3 hmid hS1 hS2 hres hown hgrow q1 q2 q3
  go_wp2
  go_ret
  exact HP.out

end Go.Proofs.Ytlnikpjcggfdmaa

/- Walks of the program's evaluator: operations of one and two kids. -/
namespace Go.Proofs.Ytlnikpjcggfdmaa
open Go.RowKit Plain

/-- what an operation on series comes to -/
def OPost (bv n : Nat) (zs : List Int) (w : World) (e : Ending) (w' : World) : Prop := ∃ A cp, e = .returned (.slice A n cp) ∧ RowV w' bv n (.slice A n cp) zs ∧ Below w.heap.size w w'
theorem OPost.of {bv n : Nat} {zs : List Int} {w : World} {e : Ending} {w' : World} (h : SPost zs w e w') (hl : zs.length = n) (hs : IsS zs) (hb : bv < w.heap.size) : OPost bv n zs w e w' := by
  obtain ⟨A, cp, h1, h2, h3⟩ := h
  exact ⟨A, cp, by rw [← hl]; exact h1, ⟨A, cp, rfl, hl, h2.isAt hb, hs⟩, h3⟩
structure SAt (w : World) (bv n : Nat) (A : Option Addr) (a : List Int) : Prop where
  len : a.length = n
  isAt : IsAt w bv A a
  isS : IsS a
theorem SAt.only {w w' : World} {bv n : Nat} {A : Option Addr} {a : List Int} (h : SAt w bv n A a) (ho : Only (fun q => q = bv) w w') : SAt w' bv n A a := ⟨h.len, h.isAt.only ho, h.isS⟩
theorem opAdd (bv n : Nat) (a b : List Int) (A B : Option Addr) (cap cap' : Nat) (w : World) (ha : SAt w bv n A a) (hb : SAt w bv n B b) (hn : n ≤ 13) (hv : bv < w.heap.size) : Calls Try.prog 129 #[.slice A n cap, .slice B n cap'] w (OPost bv n ((ops n).add a b) w) := by
  obtain ⟨rfl, h2, h3⟩ := ha
  obtain ⟨k1, k2, k3⟩ := hb
  exact (added_any A B cap cap' a b w h2.ints k2.ints k1 (by omega) h3 k3).mono fun e w' h => OPost.of (SPost.of h) (addL_length _ _) (isS_add _ _) hv
theorem opSub (bv n : Nat) (a b : List Int) (A B : Option Addr) (cap cap' : Nat) (w : World) (ha : SAt w bv n A a) (hb : SAt w bv n B b) (hn : n ≤ 13) (hv : bv < w.heap.size) : Calls Try.prog 130 #[.slice A n cap, .slice B n cap'] w (OPost bv n ((ops n).sub a b) w) := by
  obtain ⟨rfl, h2, h3⟩ := ha
  obtain ⟨k1, k2, k3⟩ := hb
  exact (reduced_any A B cap cap' a b w h2.ints k2.ints k1 (by omega) h3 k3).mono fun e w' h => OPost.of h (mk_length _ _) (IsS.mk_ fun _ => rs_bd _) hv
theorem opMul (bv n : Nat) (a b : List Int) (A B : Option Addr) (cap cap' : Nat) (w : World) (ha : SAt w bv n A a) (hb : SAt w bv n B b) (hn : n ≤ 13) (hv : bv < w.heap.size) : Calls Try.prog 131 #[.slice A n cap, .slice B n cap'] w (OPost bv n ((ops n).mul a b) w) := by
  obtain ⟨rfl, h2, h3⟩ := ha
  obtain ⟨k1, k2, k3⟩ := hb
  exact (product_any A B cap cap' a b w h2.ints k2.ints k1 (by omega) h3 k3).mono fun e w' h => OPost.of (SPost.of h) (mulL_length _ _) (isS_mul _ _) hv
theorem opDiv (bv n : Nat) (a b : List Int) (A B : Option Addr) (cap cap' : Nat) (w : World) (ha : SAt w bv n A a) (hb : SAt w bv n B b) (h0 : 1 ≤ n) (hn : n ≤ 13) (hv : bv < w.heap.size) : Calls Try.prog 133 #[.slice A n cap, .slice B n cap'] w (OPost bv n ((ops n).div a b) w) := by
  obtain ⟨rfl, h2, h3⟩ := ha
  obtain ⟨k1, k2, k3⟩ := hb
  exact (quotient_any A B cap cap' a b w h2.ints k2.ints k1 (by omega) (by omega) h3 k3).mono fun e w' h => OPost.of (SPost.of h) (divL_length _ _) (isS_div _ _) hv
theorem opNeg (bv n : Nat) (a : List Int) (A : Option Addr) (cap : Nat) (w : World) (ha : SAt w bv n A a) (hn : n ≤ 13) (hv : bv < w.heap.size) : Calls Try.prog 132 #[.slice A n cap, .int .i64 1000002] w (OPost bv n ((ops n).neg a) w) := by
  obtain ⟨rfl, h2, h3⟩ := ha
  exact (scaled_any A cap a 1000002 w h2.ints (by omega) h3 (by omega) (by omega)).mono fun e w' h => OPost.of (SPost.of h) (mk_length _ _) (IsS.mk_ fun _ => tm_bd _ _) hv
theorem LsIn.of {w w' : World} {B bv n : Nat} {P : List Fn} {fn : Int} {x : Nd} {K : Option Addr} {cap : Nat} {A : Option Addr} {env : List (List Int)} {ecap : Nat} (h : NdIn w B bv n P fn x K cap A env ecap) (ho : Only (fun q => q = bv) w w') (hB : B ≤ bv) (hl : bv < w.heap.size) (hk : x.k ≠ 9) : LsIn w' B bv n P fn x.ks K cap A env ecap :=
  ⟨h.kids.below (only_below ho hB hl), h.kl, h.km, h.envA.only ho, h.el, h.em, h.big, h.size, fun j y hy => by have := formed_kids h.form hy; rwa [kidVars_ne hk] at this, h.f0, h.f1⟩
theorem formed_opN {P : List Fn} {fn vars : Int} {x : Nd} {N : Nat} (h : formed P fn vars x = true) (hN : opN x.k N) : x.ks.len = N := by
  unfold formed at h
  rw [Bool.and_eq_true, nodeOk_op hN] at h
  simp only [Bool.and_eq_true, beq_iff_eq] at h
  exact h.1.2.2
theorem EnvAt.sat {w : World} {bv n : Nat} {A : Option Addr} {env : List (List Int)} (h : EnvAt w bv n A env) {j : Nat} (hj : j < env.length) : ∃ b o A' cap, A = some ⟨b, o, none⟩ ∧ b < w.heap.size ∧ b ≠ bv ∧ w.cell? ⟨b, o + j, none⟩ = some (.slice A' n cap) ∧ SAt w bv n A' (env.getD j []) := by
  obtain ⟨b, o, A', cap, h1, h2, h3, h4, h5, h6, h7⟩ := h.get (List.getElem?_eq_getElem hj)
  have e : env.getD j [] = env[j] := by simp [List.getD, hj]
  exact ⟨b, o, A', cap, h1, h2, h3, h4, by rw [e]; exact ⟨h5, h6, h7⟩⟩
/-- the end of an evaluation behind an error -/
theorem deadEnd {w w1 w2 : World} {bv n : Nat} {P : List Fn} {PA : Option Addr} {pcap : Nat} {s' c' : Int} {e : Ending} {R : Res (List Int)} (hO : Only (fun q => q = bv) w w1) (hS : Cells w1 bv 109 (hdI n P PA pcap ++ [.int .i64 s', .int .i64 c'])) (h : SPost ((ops n).num 0) w1 e w2) (hR : R = .err c') : ∃ A cp, e = .returned (.slice A n cp) ∧ VPost bv n 109 (hdI n P PA pcap) R w e w2 := by
  subst hR
  obtain ⟨A, cp, rfl, hr, hb⟩ := OPost.of (n := n) (bv := bv) h (by simp only [ops, mk_length]) (isS_num n (by omega) (by omega)) hS.lt
  exact ⟨A, cp, rfl, _, _, s', c', rfl, hr, hS.next hb, hO.trans (Only.of_below hb), rfl⟩
theorem goodEnd {w w1 w2 : World} {bv n : Nat} {P : List Fn} {PA : Option Addr} {pcap : Nat} {t1 : Nat} {e : Ending} {R : Res (List Int)} {zs : List Int} (hO : Only (fun q => q = bv) w w1) (hS : Cells w1 bv 109 (hdI n P PA pcap ++ [.int .i64 t1, .int .i64 0])) (h : OPost bv n zs w1 e w2) (hR : R = .ok zs t1) : ∃ A cp, e = .returned (.slice A n cp) ∧ VPost bv n 109 (hdI n P PA pcap) R w e w2 := by
  subst hR
  obtain ⟨A, cp, rfl, hr, hb⟩ := h
  exact ⟨A, cp, rfl, _, _, (t1 : Int), 0, rfl, hr, hS.next hb, hO.trans (Only.of_below hb), rfl, rfl, rfl⟩

set_option maxRecDepth 100000 in
set_option maxHeartbeats 2000000 in
theorem value_op3 (P : List Fn) (x : Nd) (n f : Nat) (IH : ValueC P n f) (env : List (List Int)) (t : Nat) (fn : Int) (K : Option Addr) (cap B bv : Nat) (A PA : Option Addr) (ecap pcap : Nat) (w : World) (hI : EvIn w B bv n P PA pcap) (hst : Cells w bv 109 (hdI n P PA pcap ++ [.int .i64 t, .int .i64 0])) (hN : NdIn w B bv n P fn x K cap A env ecap) (hk : x.k = 3) (hs : t < 3000) (hf : 3001 ≤ t + (f + 1)) :
    Calls Try.prog 106 #[.pointer (some ⟨bv, 0, none⟩), exV x.k x.n x.p x.c K x.ks.len cap, .slice A env.length ecap] w (VPost bv n 109 (hdI n P PA pcap) (ev (ops n) P (f + 1) x env t) w) := by
  have HEV : Hid (ev (ops n) P (f + 1) x env t = match evAll (ev (ops n) P f) env x.ks (t + 1) with | .err e => .err e | .ok zs s1 => .ok ((ops n).add (zs.getD 0 []) (zs.getD 1 [])) s1) := by
    show _ = _
    rw [ev, if_neg (by omega), if_neg (by omega), if_neg (by omega), if_neg (by omega), if_neg (by omega)]
    cases evAll (ev (ops n) P f) env x.ks (t + 1) with
    | err e => rfl
    | ok zs s1 => simp only; rw [if_neg (by omega)]; rw [if_neg (by omega)]; rw [if_pos hk]
  obtain ⟨rr, hrr⟩ : ∃ rr, rr = ev (ops n) P (f + 1) x env t := ⟨_, rfl⟩
  rw [← hrr]
  have HRR := Lib.hid (hrr.trans HEV.out)
  clear HEV hrr
  have HALL := Lib.hid (all_of P n f IH)
  have n0 := hI.n0
  have n1 := hI.n1
  have al := hI.lt
  have hB := hI.blow
  have a2 : w.cell? ⟨bv, 2, none⟩ = some (.int .i64 t) := by rw [hst.cell]; rfl
  have a3 : w.cell? ⟨bv, 3, none⟩ = some (.int .i64 0) := by rw [hst.cell]; rfl
  have z2 : w.frozen? ⟨bv, 2, none⟩ = false := hst.frozen _
  have e1 : ((t : Int) == 3000) = false := by simp; omega
  obtain ⟨heI, heS, heO, heX⟩ := evStep hI hst 3 x.n x.p x.c K x.ks.len cap
  have HLS := Lib.hid (LsIn.of hN heO hB al (by omega))
  have HLN := Lib.hid (formed_opN (N := 2) hN.form (by rw [hk]; exact .inl ⟨by omega, rfl⟩))
  have HI := Lib.hid heI
  have HS := Lib.hid heS
  have HO := Lib.hid heO
  have HX := Lib.hid heX
  have HN := Lib.hid hN
  have HIH := Lib.hid IH
  have H3 := Lib.hid hk
  clear hI hst heI heS heO heX hN IH
  rw [hk]
  clear hk
  go_enter Try.func106, Try.ntmps106
  go_wp2_with fail
  refine (HALL.out x.ks env ((t + 1 : Nat) : Int) (t + 1) 0 fn K cap B bv A PA ecap pcap _ HI.out HS.out (fun _ => ⟨rfl, by omega, by omega⟩) HLS.out).mono ?_; rintro e w1 ⟨A1, cp, zss, s', c', rfl, hl, hcp, hcm, hE, hS1, hO1, hres⟩
  have hO2 := HO.out.trans hO1
  have c3 : w1.cell? ⟨bv, 3, none⟩ = some (.int .i64 c') := by rw [hS1.cell]; rfl
  have cl := hS1.lt
  have hX1 := only_cells HX.out hO1 (by omega)
  have x0 : w1.cell? ⟨w.heap.size, 0, none⟩ = some (.int .i64 3) := by rw [hX1.cell]; rfl
  have x1 : w1.cell? ⟨w.heap.size, 1, none⟩ = some (.int .i64 x.n) := by rw [hX1.cell]; rfl
  have x2 : w1.cell? ⟨w.heap.size, 2, none⟩ = some (.int .i64 x.p) := by rw [hX1.cell]; rfl
  have x3 : w1.cell? ⟨w.heap.size, 3, none⟩ = some (.int .i64 x.c) := by rw [hX1.cell]; rfl
  have xl := hX1.lt
  have HS1 := Lib.hid hS1
  have HO2 := Lib.hid hO2
  have HE := Lib.hid hE
  have HX1 := Lib.hid hX1
  have HI1 := Lib.hid (HI.out.only hO1)
  have HL := Lib.hid hl
  by_cases hc : c' = 0
  · have HRES := Lib.hid (evAC_next hres hc)
    subst hc
    obtain ⟨t1, hs1, _, ht1, hev⟩ := HRES.out.2
    subst hs1
    have HEV := Lib.hid hev
    have HT1 : Hid (t1 ≤ 3000) := ht1 (by omega)
    have HT2 : Hid (t < t1) := by show _ < _; omega
    clear hX1 hS1 hO1 hO2 hE hres hev hl HRES HX HALL HLS ht1
    obtain ⟨b1, o1, Az, cz, rfl, hb1, _, g0, hz0⟩ := HE.out.sat (j := 0) (by rw [HL.out, HLN.out]; omega)
    obtain ⟨b2, o2, Ay, cy, e2, _, _, g1, hy0⟩ := HE.out.sat (j := 1) (by rw [HL.out, HLN.out]; omega)
    obtain ⟨rfl, rfl⟩ : b1 = b2 ∧ o1 = o2 := by simpa using e2
    rw [Nat.add_zero] at g0
    have hOP := Lib.hid (fun wx (hx : Only (fun q => q = bv) w1 wx) => opAdd bv n _ _ Az Ay cz cy wx (hz0.only hx) (hy0.only hx) n1 (by have := hx.size; omega))
    have l2 : (1 : Int) < (x.ks.len : Int) := by rw [HLN.out]; omega
    have l0 : (0 : Int) < (x.ks.len : Int) := by rw [HLN.out]; omega
    have l0n : 0 < x.ks.len := by rw [HLN.out]; omega
    have l1n : 1 < x.ks.len := by rw [HLN.out]; omega
    clear e2 hz0 hy0
    go_wp2_with fail
    go_still_tail 6, (by kernel_rfl)
    change wpList _ _ _ _ _ w1.drew
    have hdr : Only (fun q => q = bv) w1 w1.drew := (Only.refl _ w1).drewN 1
    go_wp2_with fail
    refine (hOP.out _ hdr).mono ?_; rintro e w2 h
    obtain ⟨Ar, cr, rfl, hp⟩ := goodEnd (R := rr) (HO2.out.trans hdr) (HS1.out.drewN 1) h (by rw [HRR.out, HEV.out])
    have HP := Lib.hid hp
    clear hp h hdr g0 g1
    go_wp2
    go_ret
    exact HP.out
  · have HB := Lib.hid (evAC_bad hres hc rfl)
    have hc1 : (c' != 0) = true := by simpa using hc
    clear hX1 hO1 hO2 hE hres hl hc x0 x1 x2 x3 xl
    go_wp2_with fail
    refine (constI_any n bv 109 _ _ _ 0 w1 (by omega) (by omega) HS1.out).mono ?_; rintro e w2 h
    obtain ⟨Ar, cr, rfl, hp⟩ := deadEnd (R := rr) HO2.out HS1.out h (by rw [HRR.out, HB.out])
    have HP := Lib.hid hp
    clear hp h hS1
    go_wp2
    go_ret
    exact HP.out

set_option maxRecDepth 100000 in
set_option maxHeartbeats 2000000 in
theorem value_op4 (P : List Fn) (x : Nd) (n f : Nat) (IH : ValueC P n f) (env : List (List Int)) (t : Nat) (fn : Int) (K : Option Addr) (cap B bv : Nat) (A PA : Option Addr) (ecap pcap : Nat) (w : World) (hI : EvIn w B bv n P PA pcap) (hst : Cells w bv 109 (hdI n P PA pcap ++ [.int .i64 t, .int .i64 0])) (hN : NdIn w B bv n P fn x K cap A env ecap) (hk : x.k = 4) (hs : t < 3000) (hf : 3001 ≤ t + (f + 1)) :
    Calls Try.prog 106 #[.pointer (some ⟨bv, 0, none⟩), exV x.k x.n x.p x.c K x.ks.len cap, .slice A env.length ecap] w (VPost bv n 109 (hdI n P PA pcap) (ev (ops n) P (f + 1) x env t) w) := by
  have HEV : Hid (ev (ops n) P (f + 1) x env t = match evAll (ev (ops n) P f) env x.ks (t + 1) with | .err e => .err e | .ok zs s1 => .ok ((ops n).sub (zs.getD 0 []) (zs.getD 1 [])) s1) := by
    show _ = _
    rw [ev, if_neg (by omega), if_neg (by omega), if_neg (by omega), if_neg (by omega), if_neg (by omega)]
    cases evAll (ev (ops n) P f) env x.ks (t + 1) with
    | err e => rfl
    | ok zs s1 => simp only; rw [if_neg (by omega)]; rw [if_neg (by omega)]; rw [if_neg (by omega)]; rw [if_pos hk]
  obtain ⟨rr, hrr⟩ : ∃ rr, rr = ev (ops n) P (f + 1) x env t := ⟨_, rfl⟩
  rw [← hrr]
  have HRR := Lib.hid (hrr.trans HEV.out)
  clear HEV hrr
  have HALL := Lib.hid (all_of P n f IH)
  have n0 := hI.n0
  have n1 := hI.n1
  have al := hI.lt
  have hB := hI.blow
  have a2 : w.cell? ⟨bv, 2, none⟩ = some (.int .i64 t) := by rw [hst.cell]; rfl
  have a3 : w.cell? ⟨bv, 3, none⟩ = some (.int .i64 0) := by rw [hst.cell]; rfl
  have z2 : w.frozen? ⟨bv, 2, none⟩ = false := hst.frozen _
  have e1 : ((t : Int) == 3000) = false := by simp; omega
  obtain ⟨heI, heS, heO, heX⟩ := evStep hI hst 4 x.n x.p x.c K x.ks.len cap
  have HLS := Lib.hid (LsIn.of hN heO hB al (by omega))
  have HLN := Lib.hid (formed_opN (N := 2) hN.form (by rw [hk]; exact .inl ⟨by omega, rfl⟩))
  have HI := Lib.hid heI
  have HS := Lib.hid heS
  have HO := Lib.hid heO
  have HX := Lib.hid heX
  have HN := Lib.hid hN
  have HIH := Lib.hid IH
  have H4 := Lib.hid hk
  clear hI hst heI heS heO heX hN IH
  rw [hk]
  clear hk
  go_enter Try.func106, Try.ntmps106
  go_wp2_with fail
  refine (HALL.out x.ks env ((t + 1 : Nat) : Int) (t + 1) 0 fn K cap B bv A PA ecap pcap _ HI.out HS.out (fun _ => ⟨rfl, by omega, by omega⟩) HLS.out).mono ?_; rintro e w1 ⟨A1, cp, zss, s', c', rfl, hl, hcp, hcm, hE, hS1, hO1, hres⟩
  have hO2 := HO.out.trans hO1
  have c3 : w1.cell? ⟨bv, 3, none⟩ = some (.int .i64 c') := by rw [hS1.cell]; rfl
  have cl := hS1.lt
  have hX1 := only_cells HX.out hO1 (by omega)
  have x0 : w1.cell? ⟨w.heap.size, 0, none⟩ = some (.int .i64 4) := by rw [hX1.cell]; rfl
  have x1 : w1.cell? ⟨w.heap.size, 1, none⟩ = some (.int .i64 x.n) := by rw [hX1.cell]; rfl
  have x2 : w1.cell? ⟨w.heap.size, 2, none⟩ = some (.int .i64 x.p) := by rw [hX1.cell]; rfl
  have x3 : w1.cell? ⟨w.heap.size, 3, none⟩ = some (.int .i64 x.c) := by rw [hX1.cell]; rfl
  have xl := hX1.lt
  have HS1 := Lib.hid hS1
  have HO2 := Lib.hid hO2
  have HE := Lib.hid hE
  have HX1 := Lib.hid hX1
  have HI1 := Lib.hid (HI.out.only hO1)
  have HL := Lib.hid hl
  by_cases hc : c' = 0
  · have HRES := Lib.hid (evAC_next hres hc)
    subst hc
    obtain ⟨t1, hs1, _, ht1, hev⟩ := HRES.out.2
    subst hs1
    have HEV := Lib.hid hev
    have HT1 : Hid (t1 ≤ 3000) := ht1 (by omega)
    have HT2 : Hid (t < t1) := by show _ < _; omega
    clear hX1 hS1 hO1 hO2 hE hres hev hl HRES HX HALL HLS ht1
    obtain ⟨b1, o1, Az, cz, rfl, hb1, _, g0, hz0⟩ := HE.out.sat (j := 0) (by rw [HL.out, HLN.out]; omega)
    obtain ⟨b2, o2, Ay, cy, e2, _, _, g1, hy0⟩ := HE.out.sat (j := 1) (by rw [HL.out, HLN.out]; omega)
    obtain ⟨rfl, rfl⟩ : b1 = b2 ∧ o1 = o2 := by simpa using e2
    rw [Nat.add_zero] at g0
    have hOP := Lib.hid (fun wx (hx : Only (fun q => q = bv) w1 wx) => opSub bv n _ _ Az Ay cz cy wx (hz0.only hx) (hy0.only hx) n1 (by have := hx.size; omega))
    have l2 : (1 : Int) < (x.ks.len : Int) := by rw [HLN.out]; omega
    have l0 : (0 : Int) < (x.ks.len : Int) := by rw [HLN.out]; omega
    have l0n : 0 < x.ks.len := by rw [HLN.out]; omega
    have l1n : 1 < x.ks.len := by rw [HLN.out]; omega
    clear e2 hz0 hy0
    go_wp2_with fail
    go_still_tail 6, (by kernel_rfl)
    change wpList _ _ _ _ _ w1.drew
    have hdr : Only (fun q => q = bv) w1 w1.drew := (Only.refl _ w1).drewN 1
    go_wp2_with fail
    refine (hOP.out _ hdr).mono ?_; rintro e w2 h
    obtain ⟨Ar, cr, rfl, hp⟩ := goodEnd (R := rr) (HO2.out.trans hdr) (HS1.out.drewN 1) h (by rw [HRR.out, HEV.out])
    have HP := Lib.hid hp
    clear hp h hdr g0 g1
    go_wp2
    go_ret
    exact HP.out
  · have HB := Lib.hid (evAC_bad hres hc rfl)
    have hc1 : (c' != 0) = true := by simpa using hc
    clear hX1 hO1 hO2 hE hres hl hc x0 x1 x2 x3 xl
    go_wp2_with fail
    refine (constI_any n bv 109 _ _ _ 0 w1 (by omega) (by omega) HS1.out).mono ?_; rintro e w2 h
    obtain ⟨Ar, cr, rfl, hp⟩ := deadEnd (R := rr) HO2.out HS1.out h (by rw [HRR.out, HB.out])
    have HP := Lib.hid hp
    clear hp h hS1
    go_wp2
    go_ret
    exact HP.out

set_option maxRecDepth 100000 in
set_option maxHeartbeats 2000000 in
theorem value_op5 (P : List Fn) (x : Nd) (n f : Nat) (IH : ValueC P n f) (env : List (List Int)) (t : Nat) (fn : Int) (K : Option Addr) (cap B bv : Nat) (A PA : Option Addr) (ecap pcap : Nat) (w : World) (hI : EvIn w B bv n P PA pcap) (hst : Cells w bv 109 (hdI n P PA pcap ++ [.int .i64 t, .int .i64 0])) (hN : NdIn w B bv n P fn x K cap A env ecap) (hk : x.k = 5) (hs : t < 3000) (hf : 3001 ≤ t + (f + 1)) :
    Calls Try.prog 106 #[.pointer (some ⟨bv, 0, none⟩), exV x.k x.n x.p x.c K x.ks.len cap, .slice A env.length ecap] w (VPost bv n 109 (hdI n P PA pcap) (ev (ops n) P (f + 1) x env t) w) := by
  have HEV : Hid (ev (ops n) P (f + 1) x env t = match evAll (ev (ops n) P f) env x.ks (t + 1) with | .err e => .err e | .ok zs s1 => .ok ((ops n).mul (zs.getD 0 []) (zs.getD 1 [])) s1) := by
    show _ = _
    rw [ev, if_neg (by omega), if_neg (by omega), if_neg (by omega), if_neg (by omega), if_neg (by omega)]
    cases evAll (ev (ops n) P f) env x.ks (t + 1) with
    | err e => rfl
    | ok zs s1 => simp only; rw [if_neg (by omega)]; rw [if_neg (by omega)]; rw [if_neg (by omega)]; rw [if_neg (by omega)]; rw [if_pos hk]
  obtain ⟨rr, hrr⟩ : ∃ rr, rr = ev (ops n) P (f + 1) x env t := ⟨_, rfl⟩
  rw [← hrr]
  have HRR := Lib.hid (hrr.trans HEV.out)
  clear HEV hrr
  have HALL := Lib.hid (all_of P n f IH)
  have n0 := hI.n0
  have n1 := hI.n1
  have al := hI.lt
  have hB := hI.blow
  have a2 : w.cell? ⟨bv, 2, none⟩ = some (.int .i64 t) := by rw [hst.cell]; rfl
  have a3 : w.cell? ⟨bv, 3, none⟩ = some (.int .i64 0) := by rw [hst.cell]; rfl
  have z2 : w.frozen? ⟨bv, 2, none⟩ = false := hst.frozen _
  have e1 : ((t : Int) == 3000) = false := by simp; omega
  obtain ⟨heI, heS, heO, heX⟩ := evStep hI hst 5 x.n x.p x.c K x.ks.len cap
  have HLS := Lib.hid (LsIn.of hN heO hB al (by omega))
  have HLN := Lib.hid (formed_opN (N := 2) hN.form (by rw [hk]; exact .inl ⟨by omega, rfl⟩))
  have HI := Lib.hid heI
  have HS := Lib.hid heS
  have HO := Lib.hid heO
  have HX := Lib.hid heX
  have HN := Lib.hid hN
  have HIH := Lib.hid IH
  have H5 := Lib.hid hk
  clear hI hst heI heS heO heX hN IH
  rw [hk]
  clear hk
  go_enter Try.func106, Try.ntmps106
  go_wp2_with fail
  refine (HALL.out x.ks env ((t + 1 : Nat) : Int) (t + 1) 0 fn K cap B bv A PA ecap pcap _ HI.out HS.out (fun _ => ⟨rfl, by omega, by omega⟩) HLS.out).mono ?_; rintro e w1 ⟨A1, cp, zss, s', c', rfl, hl, hcp, hcm, hE, hS1, hO1, hres⟩
  have hO2 := HO.out.trans hO1
  have c3 : w1.cell? ⟨bv, 3, none⟩ = some (.int .i64 c') := by rw [hS1.cell]; rfl
  have cl := hS1.lt
  have hX1 := only_cells HX.out hO1 (by omega)
  have x0 : w1.cell? ⟨w.heap.size, 0, none⟩ = some (.int .i64 5) := by rw [hX1.cell]; rfl
  have x1 : w1.cell? ⟨w.heap.size, 1, none⟩ = some (.int .i64 x.n) := by rw [hX1.cell]; rfl
  have x2 : w1.cell? ⟨w.heap.size, 2, none⟩ = some (.int .i64 x.p) := by rw [hX1.cell]; rfl
  have x3 : w1.cell? ⟨w.heap.size, 3, none⟩ = some (.int .i64 x.c) := by rw [hX1.cell]; rfl
  have xl := hX1.lt
  have HS1 := Lib.hid hS1
  have HO2 := Lib.hid hO2
  have HE := Lib.hid hE
  have HX1 := Lib.hid hX1
  have HI1 := Lib.hid (HI.out.only hO1)
  have HL := Lib.hid hl
  by_cases hc : c' = 0
  · have HRES := Lib.hid (evAC_next hres hc)
    subst hc
    obtain ⟨t1, hs1, _, ht1, hev⟩ := HRES.out.2
    subst hs1
    have HEV := Lib.hid hev
    have HT1 : Hid (t1 ≤ 3000) := ht1 (by omega)
    have HT2 : Hid (t < t1) := by show _ < _; omega
    clear hX1 hS1 hO1 hO2 hE hres hev hl HRES HX HALL HLS ht1
    obtain ⟨b1, o1, Az, cz, rfl, hb1, _, g0, hz0⟩ := HE.out.sat (j := 0) (by rw [HL.out, HLN.out]; omega)
    obtain ⟨b2, o2, Ay, cy, e2, _, _, g1, hy0⟩ := HE.out.sat (j := 1) (by rw [HL.out, HLN.out]; omega)
    obtain ⟨rfl, rfl⟩ : b1 = b2 ∧ o1 = o2 := by simpa using e2
    rw [Nat.add_zero] at g0
    have hOP := Lib.hid (fun wx (hx : Only (fun q => q = bv) w1 wx) => opMul bv n _ _ Az Ay cz cy wx (hz0.only hx) (hy0.only hx) n1 (by have := hx.size; omega))
    have l2 : (1 : Int) < (x.ks.len : Int) := by rw [HLN.out]; omega
    have l0 : (0 : Int) < (x.ks.len : Int) := by rw [HLN.out]; omega
    have l0n : 0 < x.ks.len := by rw [HLN.out]; omega
    have l1n : 1 < x.ks.len := by rw [HLN.out]; omega
    clear e2 hz0 hy0
    go_wp2_with fail
    go_still_tail 6, (by kernel_rfl)
    change wpList _ _ _ _ _ w1.drew
    have hdr : Only (fun q => q = bv) w1 w1.drew := (Only.refl _ w1).drewN 1
    go_wp2_with fail
    refine (hOP.out _ hdr).mono ?_; rintro e w2 h
    obtain ⟨Ar, cr, rfl, hp⟩ := goodEnd (R := rr) (HO2.out.trans hdr) (HS1.out.drewN 1) h (by rw [HRR.out, HEV.out])
    have HP := Lib.hid hp
    clear hp h hdr g0 g1
    go_wp2
    go_ret
    exact HP.out
  · have HB := Lib.hid (evAC_bad hres hc rfl)
    have hc1 : (c' != 0) = true := by simpa using hc
    clear hX1 hO1 hO2 hE hres hl hc x0 x1 x2 x3 xl
    go_wp2_with fail
    refine (constI_any n bv 109 _ _ _ 0 w1 (by omega) (by omega) HS1.out).mono ?_; rintro e w2 h
    obtain ⟨Ar, cr, rfl, hp⟩ := deadEnd (R := rr) HO2.out HS1.out h (by rw [HRR.out, HB.out])
    have HP := Lib.hid hp
    clear hp h hS1
    go_wp2
    go_ret
    exact HP.out

set_option maxRecDepth 100000 in
set_option maxHeartbeats 2000000 in
theorem value_op7 (P : List Fn) (x : Nd) (n f : Nat) (IH : ValueC P n f) (env : List (List Int)) (t : Nat) (fn : Int) (K : Option Addr) (cap B bv : Nat) (A PA : Option Addr) (ecap pcap : Nat) (w : World) (hI : EvIn w B bv n P PA pcap) (hst : Cells w bv 109 (hdI n P PA pcap ++ [.int .i64 t, .int .i64 0])) (hN : NdIn w B bv n P fn x K cap A env ecap) (hk : x.k = 7) (hs : t < 3000) (hf : 3001 ≤ t + (f + 1)) :
    Calls Try.prog 106 #[.pointer (some ⟨bv, 0, none⟩), exV x.k x.n x.p x.c K x.ks.len cap, .slice A env.length ecap] w (VPost bv n 109 (hdI n P PA pcap) (ev (ops n) P (f + 1) x env t) w) := by
  have HEV : Hid (ev (ops n) P (f + 1) x env t = match evAll (ev (ops n) P f) env x.ks (t + 1) with | .err e => .err e | .ok zs s1 => .ok ((ops n).neg (zs.getD 0 [])) s1) := by
    show _ = _
    rw [ev, if_neg (by omega), if_neg (by omega), if_neg (by omega), if_neg (by omega), if_neg (by omega)]
    cases evAll (ev (ops n) P f) env x.ks (t + 1) with
    | err e => rfl
    | ok zs s1 => simp only; rw [if_neg (by omega)]; rw [if_neg (by omega)]; rw [if_neg (by omega)]; rw [if_neg (by omega)]; rw [if_neg (by omega)]; rw [if_pos hk]
  obtain ⟨rr, hrr⟩ : ∃ rr, rr = ev (ops n) P (f + 1) x env t := ⟨_, rfl⟩
  rw [← hrr]
  have HRR := Lib.hid (hrr.trans HEV.out)
  clear HEV hrr
  have HALL := Lib.hid (all_of P n f IH)
  have n0 := hI.n0
  have n1 := hI.n1
  have al := hI.lt
  have hB := hI.blow
  have a2 : w.cell? ⟨bv, 2, none⟩ = some (.int .i64 t) := by rw [hst.cell]; rfl
  have a3 : w.cell? ⟨bv, 3, none⟩ = some (.int .i64 0) := by rw [hst.cell]; rfl
  have z2 : w.frozen? ⟨bv, 2, none⟩ = false := hst.frozen _
  have e1 : ((t : Int) == 3000) = false := by simp; omega
  obtain ⟨heI, heS, heO, heX⟩ := evStep hI hst 7 x.n x.p x.c K x.ks.len cap
  have HLS := Lib.hid (LsIn.of hN heO hB al (by omega))
  have HLN := Lib.hid (formed_opN (N := 1) hN.form (by rw [hk]; exact .inr (.inl ⟨rfl, rfl⟩)))
  have HI := Lib.hid heI
  have HS := Lib.hid heS
  have HO := Lib.hid heO
  have HX := Lib.hid heX
  have HN := Lib.hid hN
  have HIH := Lib.hid IH
  have H7 := Lib.hid hk
  clear hI hst heI heS heO heX hN IH
  rw [hk]
  clear hk
  go_enter Try.func106, Try.ntmps106
  go_wp2_with fail
  refine (HALL.out x.ks env ((t + 1 : Nat) : Int) (t + 1) 0 fn K cap B bv A PA ecap pcap _ HI.out HS.out (fun _ => ⟨rfl, by omega, by omega⟩) HLS.out).mono ?_; rintro e w1 ⟨A1, cp, zss, s', c', rfl, hl, hcp, hcm, hE, hS1, hO1, hres⟩
  have hO2 := HO.out.trans hO1
  have c3 : w1.cell? ⟨bv, 3, none⟩ = some (.int .i64 c') := by rw [hS1.cell]; rfl
  have cl := hS1.lt
  have hX1 := only_cells HX.out hO1 (by omega)
  have x0 : w1.cell? ⟨w.heap.size, 0, none⟩ = some (.int .i64 7) := by rw [hX1.cell]; rfl
  have x1 : w1.cell? ⟨w.heap.size, 1, none⟩ = some (.int .i64 x.n) := by rw [hX1.cell]; rfl
  have x2 : w1.cell? ⟨w.heap.size, 2, none⟩ = some (.int .i64 x.p) := by rw [hX1.cell]; rfl
  have x3 : w1.cell? ⟨w.heap.size, 3, none⟩ = some (.int .i64 x.c) := by rw [hX1.cell]; rfl
  have xl := hX1.lt
  have HS1 := Lib.hid hS1
  have HO2 := Lib.hid hO2
  have HE := Lib.hid hE
  have HX1 := Lib.hid hX1
  have HI1 := Lib.hid (HI.out.only hO1)
  have HL := Lib.hid hl
  by_cases hc : c' = 0
  · have HRES := Lib.hid (evAC_next hres hc)
    subst hc
    obtain ⟨t1, hs1, _, ht1, hev⟩ := HRES.out.2
    subst hs1
    have HEV := Lib.hid hev
    have HT1 : Hid (t1 ≤ 3000) := ht1 (by omega)
    have HT2 : Hid (t < t1) := by show _ < _; omega
    clear hX1 hS1 hO1 hO2 hE hres hev hl HRES HX HALL HLS ht1
    obtain ⟨b1, o1, Az, cz, rfl, hb1, _, g0, hz0⟩ := HE.out.sat (j := 0) (by rw [HL.out, HLN.out]; omega)
    rw [Nat.add_zero] at g0
    have hOP := Lib.hid (opNeg bv n _ Az cz w1 hz0 n1 (by omega))
    have l0 : (0 : Int) < (x.ks.len : Int) := by rw [HLN.out]; omega
    have l0n : 0 < x.ks.len := by rw [HLN.out]; omega
    clear hz0
    go_wp2_with fail
    refine hOP.out.mono ?_; rintro e w2 h
    obtain ⟨Ar, cr, rfl, hp⟩ := goodEnd (R := rr) HO2.out HS1.out h (by rw [HRR.out, HEV.out])
    have HP := Lib.hid hp
    clear hp h g0
    go_wp2
    go_ret
    exact HP.out
  · have HB := Lib.hid (evAC_bad hres hc rfl)
    have hc1 : (c' != 0) = true := by simpa using hc
    clear hX1 hO1 hO2 hE hres hl hc x0 x1 x2 x3 xl
    go_wp2_with fail
    refine (constI_any n bv 109 _ _ _ 0 w1 (by omega) (by omega) HS1.out).mono ?_; rintro e w2 h
    obtain ⟨Ar, cr, rfl, hp⟩ := deadEnd (R := rr) HO2.out HS1.out h (by rw [HRR.out, HB.out])
    have HP := Lib.hid hp
    clear hp h hS1
    go_wp2
    go_ret
    exact HP.out

set_option maxRecDepth 100000 in
set_option maxHeartbeats 2000000 in
theorem value_op6 (P : List Fn) (x : Nd) (n f : Nat) (IH : ValueC P n f) (env : List (List Int)) (t : Nat) (fn : Int) (K : Option Addr) (cap B bv : Nat) (A PA : Option Addr) (ecap pcap : Nat) (w : World) (hI : EvIn w B bv n P PA pcap) (hst : Cells w bv 109 (hdI n P PA pcap ++ [.int .i64 t, .int .i64 0])) (hN : NdIn w B bv n P fn x K cap A env ecap) (hk : x.k = 6) (hs : t < 3000) (hf : 3001 ≤ t + (f + 1)) :
    Calls Try.prog 106 #[.pointer (some ⟨bv, 0, none⟩), exV x.k x.n x.p x.c K x.ks.len cap, .slice A env.length ecap] w (VPost bv n 109 (hdI n P PA pcap) (ev (ops n) P (f + 1) x env t) w) := by
  have HEV : Hid (ev (ops n) P (f + 1) x env t = match evAll (ev (ops n) P f) env x.ks (t + 1) with | .err e => .err e | .ok zs s1 => if cf (zs.getD 1 []) 0 = 0 then .err 6 else .ok ((ops n).div (zs.getD 0 []) (zs.getD 1 [])) s1) := by
    show _ = _
    rw [ev, if_neg (by omega), if_neg (by omega), if_neg (by omega), if_neg (by omega), if_neg (by omega)]
    cases evAll (ev (ops n) P f) env x.ks (t + 1) with
    | err e => rfl
    | ok zs s1 => simp only; rw [if_neg (by omega), if_neg (by omega), if_neg (by omega), if_neg (by omega), if_neg (by omega), if_neg (by omega)]
  obtain ⟨rr, hrr⟩ : ∃ rr, rr = ev (ops n) P (f + 1) x env t := ⟨_, rfl⟩
  rw [← hrr]
  have HRR := Lib.hid (hrr.trans HEV.out)
  clear HEV hrr
  have HALL := Lib.hid (all_of P n f IH)
  have n0 := hI.n0
  have n1 := hI.n1
  have al := hI.lt
  have hB := hI.blow
  have a2 : w.cell? ⟨bv, 2, none⟩ = some (.int .i64 t) := by rw [hst.cell]; rfl
  have a3 : w.cell? ⟨bv, 3, none⟩ = some (.int .i64 0) := by rw [hst.cell]; rfl
  have z2 : w.frozen? ⟨bv, 2, none⟩ = false := hst.frozen _
  have e1 : ((t : Int) == 3000) = false := by simp; omega
  obtain ⟨heI, heS, heO, heX⟩ := evStep hI hst 6 x.n x.p x.c K x.ks.len cap
  have HLS := Lib.hid (LsIn.of hN heO hB al (by omega))
  have HLN := Lib.hid (formed_opN (N := 2) hN.form (by rw [hk]; exact .inl ⟨by omega, rfl⟩))
  have HI := Lib.hid heI
  have HS := Lib.hid heS
  have HO := Lib.hid heO
  have HX := Lib.hid heX
  have HN := Lib.hid hN
  have HIH := Lib.hid IH
  have H6 := Lib.hid hk
  clear hI hst heI heS heO heX hN IH
  rw [hk]
  clear hk
  go_enter Try.func106, Try.ntmps106
  go_wp2_with fail
  refine (HALL.out x.ks env ((t + 1 : Nat) : Int) (t + 1) 0 fn K cap B bv A PA ecap pcap _ HI.out HS.out (fun _ => ⟨rfl, by omega, by omega⟩) HLS.out).mono ?_; rintro e w1 ⟨A1, cp, zss, s', c', rfl, hl, hcp, hcm, hE, hS1, hO1, hres⟩
  have hO2 := HO.out.trans hO1
  have c3 : w1.cell? ⟨bv, 3, none⟩ = some (.int .i64 c') := by rw [hS1.cell]; rfl
  have cl := hS1.lt
  have hX1 := only_cells HX.out hO1 (by omega)
  have x0 : w1.cell? ⟨w.heap.size, 0, none⟩ = some (.int .i64 6) := by rw [hX1.cell]; rfl
  have x1 : w1.cell? ⟨w.heap.size, 1, none⟩ = some (.int .i64 x.n) := by rw [hX1.cell]; rfl
  have x2 : w1.cell? ⟨w.heap.size, 2, none⟩ = some (.int .i64 x.p) := by rw [hX1.cell]; rfl
  have x3 : w1.cell? ⟨w.heap.size, 3, none⟩ = some (.int .i64 x.c) := by rw [hX1.cell]; rfl
  have xl := hX1.lt
  have HS1 := Lib.hid hS1
  have HO2 := Lib.hid hO2
  have HE := Lib.hid hE
  have HX1 := Lib.hid hX1
  have HI1 := Lib.hid (HI.out.only hO1)
  have HL := Lib.hid hl
  by_cases hc : c' = 0
  · have HRES := Lib.hid (evAC_next hres hc)
    subst hc
    obtain ⟨t1, hs1, _, ht1, hev⟩ := HRES.out.2
    subst hs1
    have HEV := Lib.hid hev
    have HT1 : Hid (t1 ≤ 3000) := ht1 (by omega)
    have HT2 : Hid (t < t1) := by show _ < _; omega
    clear hX1 hS1 hO1 hO2 hE hres hev hl HRES HX HALL HLS ht1
    obtain ⟨b1, o1, Az, cz, rfl, hb1, _, g0, hz0⟩ := HE.out.sat (j := 0) (by rw [HL.out, HLN.out]; omega)
    obtain ⟨b2, o2, Ay, cy, e2, _, _, g1, hy0⟩ := HE.out.sat (j := 1) (by rw [HL.out, HLN.out]; omega)
    obtain ⟨rfl, rfl⟩ : b1 = b2 ∧ o1 = o2 := by simpa using e2
    rw [Nat.add_zero] at g0
    have hrow : RowV w1 bv n (.slice Ay n cy) (zss.getD 1 []) := ⟨Ay, cy, rfl, hy0.len, hy0.isAt, hy0.isS⟩
    obtain ⟨b3, o3, c3', hv3, hb3, hc3⟩ := hrow.first (by omega)
    obtain ⟨rfl, rfl⟩ : Ay = some ⟨b3, o3, none⟩ ∧ cy = c3' := by simpa using hv3
    have l2 : (1 : Int) < (x.ks.len : Int) := by rw [HLN.out]; omega
    have l0 : (0 : Int) < (x.ks.len : Int) := by rw [HLN.out]; omega
    have l0n : 0 < x.ks.len := by rw [HLN.out]; omega
    have l1n : 1 < x.ks.len := by rw [HLN.out]; omega
    have ln : (0 : Int) < (n : Int) := by omega
    have lnn : 0 < n := by omega
    have hOP := Lib.hid (fun wx (hx : Only (fun q => q = bv) w1 wx) => opDiv bv n _ _ Az (some ⟨b3, o3, none⟩) cz cy wx (hz0.only hx) (hy0.only hx) n0 n1 (by have := hx.size; omega))
    by_cases hz : cf (zss.getD 1 []) 0 = 0
    · have hR : Hid (rr = .err 6) := by show _ = _; rw [HRR.out, HEV.out]; simp only; rw [if_pos hz]
      have hzz : (cf (zss.getD 1 []) 0 == 0) = true := by simpa using hz
      have HZ := Lib.hid hz
      have z3 : w1.frozen? ⟨bv, 3, none⟩ = false := HS1.out.frozen _
      have hsz : (w1.setCell ⟨bv, 3, none⟩ (.int .i64 6)).heap.size = w1.heap.size := by simp [World.setCell]
      have HO3 : Hid (Only (fun q => q = bv) w (w1.setCell ⟨bv, 3, none⟩ (.int .i64 6))) := HO2.out.trans ⟨rfl, rfl, rfl, by rw [hsz]; exact Nat.le_refl _, fun q _ hq => Below.heap_setCell _ _ _ _ hq⟩
      have HC3 : Hid (Cells (w1.setCell ⟨bv, 3, none⟩ (.int .i64 6)) bv 109 (hdI n P PA pcap ++ [.int .i64 t1, .int .i64 6])) := HS1.out.set_ 3 (.int .i64 6)
      clear e2 hz0 hy0 hrow hv3 hOP hz hsz
      generalize cf (zss.getD 1 []) 0 = q at *
      go_wp2_with fail
      refine (constI_any n bv 109 _ _ _ 0 _ (by omega) (by omega) HC3.out).mono ?_; rintro e w2 h
      obtain ⟨Ar, cr, rfl, hp⟩ := deadEnd (R := rr) HO3.out HC3.out h hR.out
      have HP := Lib.hid hp
      clear hp h
      go_wp2
      go_ret
      exact HP.out
    · have hR : Hid (rr = .ok ((ops n).div (zss.getD 0 []) (zss.getD 1 [])) t1) := by show _ = _; rw [HRR.out, HEV.out]; simp only; rw [if_neg hz]
      have hzz : (cf (zss.getD 1 []) 0 == 0) = false := by simpa using hz
      clear e2 hz0 hy0 hrow hv3 hz
      obtain ⟨q, hq⟩ : ∃ q, q = cf (zss.getD 1 []) 0 := ⟨_, rfl⟩
      rw [← hq] at hc3 hzz
      clear hq
      go_wp2_with fail
      go_still_tail 6, (by kernel_rfl)
      change wpList _ _ _ _ _ w1.drew
      have hdr : Only (fun q => q = bv) w1 w1.drew := (Only.refl _ w1).drewN 1
      go_wp2_with fail
      refine (hOP.out _ hdr).mono ?_; rintro e w2 h
      obtain ⟨Ar, cr, rfl, hp⟩ := goodEnd (R := rr) (HO2.out.trans hdr) (HS1.out.drewN 1) h hR.out
      have HP := Lib.hid hp
      clear hp h hdr g0 g1
      go_wp2
      go_ret
      exact HP.out
  · have HB := Lib.hid (evAC_bad hres hc rfl)
    have hc1 : (c' != 0) = true := by simpa using hc
    clear hX1 hO1 hO2 hE hres hl hc x0 x1 x2 x3 xl
    go_wp2_with fail
    refine (constI_any n bv 109 _ _ _ 0 w1 (by omega) (by omega) HS1.out).mono ?_; rintro e w2 h
    obtain ⟨Ar, cr, rfl, hp⟩ := deadEnd (R := rr) HO2.out HS1.out h (by rw [HRR.out, HB.out])
    have HP := Lib.hid hp
    clear hp h hS1
    go_wp2
    go_ret
    exact HP.out

end Go.Proofs.Ytlnikpjcggfdmaa

/- Walks of the program's evaluator: calls. -/
namespace Go.Proofs.Ytlnikpjcggfdmaa
open Go.RowKit Plain

/-- what a right call is -/
structure CallIn (P : List Fn) (m pi : Nat) (c : Int) (ks : Es) (k : Int) (f : Fn) (y : Nd) : Prop where
  fn : P[m]? = some f
  par : (ks.len : Int) = f.params
  out : f.outs.get? pi = some y
  p12 : ks.len ≤ 12
  o12 : f.outs.len ≤ 12
  size : f.outs.size ≤ 400
  each : ∀ j z, f.outs.get? j = some z → formed P m ks.len z = true ∧ z.ks.size ≤ 399 ∧ z.ks.depth ≤ 59
  dep : f.outs.depth ≤ 60
  loop : k = 11 → 0 ≤ c ∧ c ≤ 8 ∧ f.outs.len = ks.len
  one : k = 10 → c = 0
theorem depth_of {es : Es} {d : Nat} (h : ∀ j z, es.get? j = some z → z.ks.depth + 1 ≤ d) : es.depth ≤ d := by
  induction es with
  | nil => exact Nat.zero_le _
  | cons k n p c ks r _ ih =>
    simp only [Es.depth]
    have h1 := h 0 ⟨k, n, p, c, ks⟩ rfl
    have h2 := ih fun j z hz => h (j + 1) z hz
    simp only at h1
    omega
theorem callIn {P : List Fn} {fn vars : Int} {k n p c : Int} {ks : Es} (hok : progOk P = true) (h : formed P fn vars ⟨k, n, p, c, ks⟩ = true) (hk : k = 10 ∨ k = 11) (hfn : fn ≤ P.length) : ∃ (m pi : Nat) (f : Fn) (y : Nd), n = m ∧ p = pi ∧ (m : Int) < fn ∧ CallIn P m pi c ks k f y := by
  unfold formed at h
  rw [Bool.and_eq_true] at h
  have h1 := h.1
  simp only at h1
  have hn : inR n 0 (fn - 1) = true := by
    cases hh : inR n 0 (fn - 1)
    · rw [nodeOk_no hk hh] at h1; cases h1
    · rfl
  obtain ⟨n0, n1⟩ := inR_true.1 hn
  obtain ⟨m, rfl⟩ := Int.eq_ofNat_of_zero_le n0
  obtain ⟨f, hf⟩ : ∃ f, P[m]? = some f := ⟨P[m]'(by omega), List.getElem?_eq_getElem _⟩
  rw [nodeOk_call hk (show P[(m : Int).toNat]? = some f from hf) hn] at h1
  rw [Bool.and_eq_true, Bool.and_eq_true] at h1
  have hpar : (ks.len : Int) = f.params := of_decide_eq_true h1.1.1
  obtain ⟨p0, p1⟩ := inR_true.1 h1.1.2
  obtain ⟨pi, rfl⟩ := Int.eq_ofNat_of_zero_le p0
  obtain ⟨y, hy⟩ := Es.get?_some (show pi < f.outs.len by omega)
  have hfo := progOk_get hok hf
  unfold fnOk at hfo
  simp only [Bool.and_eq_true, decide_eq_true_eq] at hfo
  obtain ⟨⟨⟨⟨⟨_, _⟩, h12⟩, ho⟩, hex⟩, hsz⟩ := hfo
  have q1 := inR_true.1 h12
  have q2 := inR_true.1 ho
  have heach : ∀ j z, f.outs.get? j = some z → formed P m ks.len z = true ∧ z.ks.size ≤ 399 ∧ z.ks.depth ≤ 59 := fun j z hz => by
    have := exprsOk_get hex hz
    unfold exprOk at this
    simp only [Bool.and_eq_true, decide_eq_true_eq] at this
    rw [hpar]
    have a := this.1.1.2
    have b := this.1.2
    unfold Nd.size at a
    unfold Nd.depth at b
    exact ⟨this.2, by omega, by omega⟩
  refine ⟨m, pi, f, y, rfl, rfl, by omega, hf, hpar, hy, by omega, by omega, hsz, heach, depth_of fun j z hz => by have := (heach j z hz).2.2; omega, ?_, ?_⟩
  · rintro rfl
    have h2 := h1.2
    rw [if_neg (by omega), Bool.and_eq_true] at h2
    have q3 := inR_true.1 h2.2
    have q4 : (f.outs.len : Int) = f.params := of_decide_eq_true h2.1
    exact ⟨q3.1, q3.2, by omega⟩
  · rintro rfl
    have h2 := h1.2
    simpa using h2
/-- a function's output in memory -/
theorem outAt {w : World} {B : Nat} {P : List Fn} {PA : Option Addr} {m pi : Nat} {f : Fn} {y : Nd} (h : FnSl w B P PA) (hf : P[m]? = some f) (hy : f.outs.get? pi = some y) :
    ∃ bP oP KF cF bk ok, PA = some ⟨bP, oP, none⟩ ∧ bP < B ∧ w.cell? ⟨bP, oP + m * 3 + 2, none⟩ = some (.slice KF f.outs.len cF) ∧ f.outs.len ≤ cF ∧ cF ≤ maxLen ∧ KF = some ⟨bk, ok, none⟩ ∧ ExSl w B f.outs KF ∧ ElAt w B y.k y.n y.p y.c y.ks bk (ok + pi * 5) := by
  obtain ⟨bP, oP, rfl, hb, _, _, _, KF, cF, g2, hc, hm, hk⟩ := h.get hf
  obtain ⟨bk, ok, rfl, he⟩ := hk.get hy
  exact ⟨bP, oP, _, cF, bk, ok, rfl, hb, g2, hc, hm, rfl, hk, he⟩

set_option maxRecDepth 100000 in
set_option maxHeartbeats 2000000 in
theorem value_call (P : List Fn) (m pi : Nat) (xc : Int) (ks : Es) (n f : Nat) (IH : ValueC P n f) (env : List (List Int)) (t : Nat) (fn : Int) (K : Option Addr) (cap B bv : Nat) (A PA : Option Addr) (ecap pcap : Nat) (w : World) (hI : EvIn w B bv n P PA pcap) (hst : Cells w bv 109 (hdI n P PA pcap ++ [.int .i64 t, .int .i64 0])) (hN : NdIn w B bv n P fn ⟨10, m, pi, xc, ks⟩ K cap A env ecap) (g : Fn) (y : Nd) (hC : CallIn P m pi xc ks 10 g y) (hs : t < 3000) (hf : 3001 ≤ t + (f + 1)) :
    Calls Try.prog 106 #[.pointer (some ⟨bv, 0, none⟩), exV 10 m pi xc K ks.len cap, .slice A env.length ecap] w (VPost bv n 109 (hdI n P PA pcap) (ev (ops n) P (f + 1) ⟨10, m, pi, xc, ks⟩ env t) w) := by
  have HEV : Hid (ev (ops n) P (f + 1) ⟨10, m, pi, xc, ks⟩ env t = match evAll (ev (ops n) P f) env ks (t + 1) with | .err e => .err e | .ok zs s1 => ev (ops n) P f y zs s1) := by
    show _ = _
    rw [ev, if_neg (by omega), if_neg (by show ¬ (10 : Int) = 1; omega), if_neg (by show ¬ (10 : Int) = 2; omega), if_neg (by show ¬ (10 : Int) = 8; omega), if_neg (by show ¬ (10 : Int) = 9; omega)]
    cases evAll (ev (ops n) P f) env ks (t + 1) with
    | err e => rfl
    | ok zs s1 => simp only; rw [if_pos trivial, show P[(m : Int).toNat]? = some g from hC.fn]; simp only [Int.toNat_natCast, hC.out]
  obtain ⟨rr, hrr⟩ : ∃ rr, rr = ev (ops n) P (f + 1) ⟨10, m, pi, xc, ks⟩ env t := ⟨_, rfl⟩
  rw [← hrr]
  have HRR := Lib.hid (hrr.trans HEV.out)
  clear HEV hrr
  have HALL := Lib.hid (all_of P n f IH)
  have n0 := hI.n0
  have n1 := hI.n1
  have al := hI.lt
  have hB := hI.blow
  have a2 : w.cell? ⟨bv, 2, none⟩ = some (.int .i64 t) := by rw [hst.cell]; rfl
  have a3 : w.cell? ⟨bv, 3, none⟩ = some (.int .i64 0) := by rw [hst.cell]; rfl
  have z2 : w.frozen? ⟨bv, 2, none⟩ = false := hst.frozen _
  have e1 : ((t : Int) == 3000) = false := by simp; omega
  obtain ⟨heI, heS, heO, heX⟩ := evStep hI hst 10 m pi xc K ks.len cap
  have HLS := Lib.hid (LsIn.of hN heO hB al (by show (10 : Int) ≠ 9; omega))
  have HC := Lib.hid hC
  have HI := Lib.hid heI
  have HS := Lib.hid heS
  have HO := Lib.hid heO
  have HX := Lib.hid heX
  have HN := Lib.hid hN
  have HIH := Lib.hid IH
  clear hC hI hst heI heS heO heX hN IH
  go_enter Try.func106, Try.ntmps106
  go_wp2_with fail
  refine (HALL.out ks env ((t + 1 : Nat) : Int) (t + 1) 0 fn K cap B bv A PA ecap pcap _ HI.out HS.out (fun _ => ⟨rfl, by omega, by omega⟩) HLS.out).mono ?_; rintro e w1 ⟨A1, cp, zss, s', c', rfl, hl, hcp, hcm, hE, hS1, hO1, hres⟩
  have hO2 := HO.out.trans hO1
  have c3 : w1.cell? ⟨bv, 3, none⟩ = some (.int .i64 c') := by rw [hS1.cell]; rfl
  have cl := hS1.lt
  have hX1 := only_cells HX.out hO1 (by omega)
  have x0 : w1.cell? ⟨w.heap.size, 0, none⟩ = some (.int .i64 10) := by rw [hX1.cell]; rfl
  have x1 : w1.cell? ⟨w.heap.size, 1, none⟩ = some (.int .i64 m) := by rw [hX1.cell]; rfl
  have x2 : w1.cell? ⟨w.heap.size, 2, none⟩ = some (.int .i64 pi) := by rw [hX1.cell]; rfl
  have x3 : w1.cell? ⟨w.heap.size, 3, none⟩ = some (.int .i64 xc) := by rw [hX1.cell]; rfl
  have xl := hX1.lt
  have HS1 := Lib.hid hS1
  have HO2 := Lib.hid hO2
  have HE := Lib.hid hE
  have HX1 := Lib.hid hX1
  have HI1 := Lib.hid (HI.out.only hO1)
  have HL := Lib.hid hl
  by_cases hc : c' = 0
  · have HRES := Lib.hid (evAC_next hres hc)
    subst hc
    obtain ⟨t1, hs1, _, ht1, hev⟩ := HRES.out.2
    subst hs1
    have HEV := Lib.hid hev
    have HT1 : Hid (t1 ≤ 3000) := ht1 (by omega)
    have HT2 : Hid (t < t1) := by show _ < _; omega
    clear hX1 hS1 hO1 hO2 hE hres hev hl HRES HX HALL HLS ht1
    obtain ⟨bP, oP, KF, cF, bk, ok, rfl, hbP, g2, hcF, hmF, rfl, hKo, hEy⟩ := outAt HI1.out.prog HC.out.fn HC.out.out
    obtain ⟨Ky, capy, hbk, q0, q1, q2, q3, q4, qc, qm, qk⟩ := hEy.cells
    have c0 : w1.cell? ⟨bv, 0, none⟩ = some (.slice (some ⟨bP, oP, none⟩) P.length pcap) := by rw [HS1.out.cell]; rfl
    have hml : m < P.length := (List.getElem?_eq_some_iff.1 HC.out.fn).1
    have hml2 : (m : Int) < (P.length : Int) := by omega
    have hpl : pi < g.outs.len := Es.get?_lt HC.out.out
    have hpl2 : (pi : Int) < (g.outs.len : Int) := by omega
    have hYF := HC.out.each pi y HC.out.out
    have hd : Only (fun q => q = bv) w1 w1.drew := (Only.refl _ w1).drewN 1
    have hcall := HIH.out y zss t1 t1 0 m Ky capy B bv A1 (some ⟨bP, oP, none⟩) cp pcap w1.drew (HI1.out.only hd) (HS1.out.drewN 1) (fun _ => ⟨rfl, HT1.out, by have := HT2.out; omega⟩)
      ⟨qk.below (only_below hd hB cl), qc, qm, HE.out.only hd, by rw [HL.out]; exact hcp, hcm, by rw [HL.out]; have := HC.out.p12; omega, by omega, by rw [HL.out]; exact hYF.1, by omega, by omega⟩
    rw [HL.out] at hcall
    have hrr : Hid (evC n P f 0 y zss t1 = rr) := by show _ = _; rw [HRR.out, HEV.out]; rfl
    have HCALL := Lib.hid hcall
    clear hcall hYF hEy hKo qk hd HL HEV HRR
    go_wp2_with fail
    go_still_tail 16, (by kernel_rfl)
    change wpList _ _ _ _ _ w1.drew
    go_wp2_with fail
    refine HCALL.out.mono ?_; rintro e w2 h
    have hp := VPost.from (HO2.out.trans ((Only.refl _ w1).drewN 1)) h hrr.out
    obtain ⟨v, _, _, _, rfl, _⟩ := h
    have HP := Lib.hid hp
    clear hp
    go_wp2
    go_ret
    exact HP.out
  · have HB := Lib.hid (evAC_bad hres hc rfl)
    have hc1 : (c' != 0) = true := by simpa using hc
    clear hX1 hO1 hO2 hE hres hl hc x0 x1 x2 x3 xl
    go_wp2_with fail
    refine (constI_any n bv 109 _ _ _ 0 w1 (by omega) (by omega) HS1.out).mono ?_; rintro e w2 h
    obtain ⟨Ar, cr, rfl, hp⟩ := deadEnd (R := rr) HO2.out HS1.out h (by rw [HRR.out, HB.out])
    have HP := Lib.hid hp
    clear hp h hS1
    go_wp2
    go_ret
    exact HP.out

end Go.Proofs.Ytlnikpjcggfdmaa

/- Walks of the program's evaluator: loops. -/
namespace Go.Proofs.Ytlnikpjcggfdmaa
open Go.RowKit Plain

/-- one of the values -/
def pickR (pi : Nat) : Res (List (List Int)) → Res (List Int)
  | .err e => .err e
  | .ok ws s2 => .ok (ws.getD pi []) s2
/-- what a state between two rounds says of the end -/
def LoopR (n : Nat) (P : List Fn) (f : Nat) (outs : Es) (R : Res (List (List Int))) (q : Nat) (zs : List (List Int)) (s' c' : Int) : Prop :=
  (c' = 0 → ∃ t1 : Nat, s' = t1 ∧ t1 ≤ 3000 ∧ 3001 ≤ t1 + f ∧ R = evLoop (ev (ops n) P f) outs q zs t1) ∧ (c' ≠ 0 → R = .err c')
theorem LoopR.step {n : Nat} {P : List Fn} {f : Nat} {outs : Es} {R : Res (List (List Int))} {q : Nat} {zs zs' : List (List Int)} {s s' c' : Int} (h : LoopR n P f outs R (q + 1) zs s 0) (hr : ResIs (evAC n P f 0 outs zs s.toNat) zs' s' c') : LoopR n P f outs R q zs' s' c' := by
  obtain ⟨t0, rfl, a1, a2, a3⟩ := h.1 rfl
  constructor
  · intro hc
    obtain ⟨_, t1, rfl, h1, h2, h3⟩ := evAC_next hr hc
    simp only [Int.toNat_natCast] at h1 h2 h3
    refine ⟨t1, rfl, h2 a1, by omega, ?_⟩
    rw [a3]
    simp only [evLoop]
    rw [h3]
  · intro hc
    have hb := evAC_bad hr hc rfl
    simp only [Int.toNat_natCast] at hb
    rw [a3]
    simp only [evLoop]
    rw [hb]
theorem LoopR.now {n : Nat} {P : List Fn} {f : Nat} {outs : Es} {R : Res (List (List Int))} {q : Nat} {zs : List (List Int)} {s c : Int} (h : LoopR n P f outs R q zs s c) : c = 0 → s = (s.toNat : Int) ∧ s.toNat ≤ 3000 ∧ 3001 ≤ s.toNat + f := fun hc => by
  obtain ⟨t, rfl, h1, h2, _⟩ := h.1 hc
  simp only [Int.toNat_natCast]
  exact ⟨trivial, h1, h2⟩
theorem loopEnd {w wr : World} {bv n cp pi q f : Nat} {t : TypeId} {hd : List Value} {A' : Option Addr} {zs : List (List Int)} {s' c' : Int} {P : List Fn} {outs : Es} {R : Res (List (List Int))} {rr : Res (List Int)} (hO : Only (fun q => q = bv) w wr) (hS : Cells wr bv t (hd ++ [.int .i64 s', .int .i64 c'])) (hrow : SAt wr bv n A' (zs.getD pi []))
    (hL : LoopR n P f outs R q zs s' c') (hq : c' = 0 → q = 0) (hrr : rr = pickR pi R) : VPost bv n t hd rr w (.returned (.slice A' n cp)) wr := by
  refine ⟨_, zs.getD pi [], s', c', rfl, ⟨A', cp, rfl, hrow.len, hrow.isAt, hrow.isS⟩, hS, hO, ?_⟩
  by_cases hc : c' = 0
  · obtain ⟨t1, rfl, _, _, h3⟩ := hL.1 hc
    rw [hq hc] at h3
    simp only [evLoop] at h3
    rw [hrr, h3]
    exact ⟨rfl, rfl, hc⟩
  · rw [hrr, hL.2 hc]; rfl

set_option maxRecDepth 100000 in
set_option maxHeartbeats 4000000 in
theorem value_loop (P : List Fn) (m pi C : Nat) (ks : Es) (n f : Nat) (IH : ValueC P n f) (env : List (List Int)) (t : Nat) (fn : Int) (K : Option Addr) (cap B bv : Nat) (A PA : Option Addr) (ecap pcap : Nat) (w : World) (hI : EvIn w B bv n P PA pcap) (hst : Cells w bv 109 (hdI n P PA pcap ++ [.int .i64 t, .int .i64 0])) (hN : NdIn w B bv n P fn ⟨11, m, pi, C, ks⟩ K cap A env ecap) (g : Fn) (y : Nd) (hC : CallIn P m pi C ks 11 g y) (hs : t < 3000) (hf : 3001 ≤ t + (f + 1)) :
    Calls Try.prog 106 #[.pointer (some ⟨bv, 0, none⟩), exV 11 m pi C K ks.len cap, .slice A env.length ecap] w (VPost bv n 109 (hdI n P PA pcap) (ev (ops n) P (f + 1) ⟨11, m, pi, C, ks⟩ env t) w) := by
  have HEV : Hid (ev (ops n) P (f + 1) ⟨11, m, pi, C, ks⟩ env t = match evAll (ev (ops n) P f) env ks (t + 1) with | .err e => .err e | .ok zs s1 => pickR pi (evLoop (ev (ops n) P f) g.outs C zs s1)) := by
    show _ = _
    rw [ev, if_neg (by omega), if_neg (by show ¬ (11 : Int) = 1; omega), if_neg (by show ¬ (11 : Int) = 2; omega), if_neg (by show ¬ (11 : Int) = 8; omega), if_neg (by show ¬ (11 : Int) = 9; omega)]
    cases evAll (ev (ops n) P f) env ks (t + 1) with
    | err e => rfl
    | ok zs s1 => simp only; rw [if_neg (by omega), if_pos trivial, show P[(m : Int).toNat]? = some g from hC.fn]; simp only [Int.toNat_natCast]; cases evLoop (ev (ops n) P f) g.outs C zs s1 <;> rfl
  obtain ⟨rr, hrr⟩ : ∃ rr, rr = ev (ops n) P (f + 1) ⟨11, m, pi, C, ks⟩ env t := ⟨_, rfl⟩
  rw [← hrr]
  have HRR := Lib.hid (hrr.trans HEV.out)
  clear HEV hrr
  have HALL := Lib.hid (all_of P n f IH)
  have n0 := hI.n0
  have n1 := hI.n1
  have al := hI.lt
  have hB := hI.blow
  have a2 : w.cell? ⟨bv, 2, none⟩ = some (.int .i64 t) := by rw [hst.cell]; rfl
  have a3 : w.cell? ⟨bv, 3, none⟩ = some (.int .i64 0) := by rw [hst.cell]; rfl
  have z2 : w.frozen? ⟨bv, 2, none⟩ = false := hst.frozen _
  have e1 : ((t : Int) == 3000) = false := by simp; omega
  obtain ⟨heI, heS, heO, heX⟩ := evStep hI hst 11 m pi C K ks.len cap
  have HLS := Lib.hid (LsIn.of hN heO hB al (by show (11 : Int) ≠ 9; omega))
  have HC := Lib.hid hC
  have HI := Lib.hid heI
  have HS := Lib.hid heS
  have HO := Lib.hid heO
  have HX := Lib.hid heX
  have HN := Lib.hid hN
  have HIH := Lib.hid IH
  clear hC hI hst heI heS heO heX hN IH
  go_enter Try.func106, Try.ntmps106
  go_wp2_with fail
  refine (HALL.out ks env ((t + 1 : Nat) : Int) (t + 1) 0 fn K cap B bv A PA ecap pcap _ HI.out HS.out (fun _ => ⟨rfl, by omega, by omega⟩) HLS.out).mono ?_; rintro e w1 ⟨A1, cp, zss, s', c', rfl, hl, hcp, hcm, hE, hS1, hO1, hres⟩
  have hO2 := HO.out.trans hO1
  have c3 : w1.cell? ⟨bv, 3, none⟩ = some (.int .i64 c') := by rw [hS1.cell]; rfl
  have cl := hS1.lt
  have hX1 := only_cells HX.out hO1 (by omega)
  have x0 : w1.cell? ⟨w.heap.size, 0, none⟩ = some (.int .i64 11) := by rw [hX1.cell]; rfl
  have x1 : w1.cell? ⟨w.heap.size, 1, none⟩ = some (.int .i64 m) := by rw [hX1.cell]; rfl
  have x2 : w1.cell? ⟨w.heap.size, 2, none⟩ = some (.int .i64 pi) := by rw [hX1.cell]; rfl
  have x3 : w1.cell? ⟨w.heap.size, 3, none⟩ = some (.int .i64 C) := by rw [hX1.cell]; rfl
  have xl := hX1.lt
  have HS1 := Lib.hid hS1
  have HO2 := Lib.hid hO2
  have HE := Lib.hid hE
  have HX1 := Lib.hid hX1
  have HI1 := Lib.hid (HI.out.only hO1)
  have HL := Lib.hid hl
  by_cases hc : c' = 0
  · have HRES := Lib.hid (evAC_next hres hc)
    subst hc
    obtain ⟨t1, hs1, _, ht1, hev⟩ := HRES.out.2
    subst hs1
    have HEV := Lib.hid hev
    have HT1 : Hid (t1 ≤ 3000) := ht1 (by omega)
    have HT2 : Hid (t < t1) := by show _ < _; omega
    clear hX1 hS1 hO1 hO2 hE hres hev hl HRES HX HALL HLS ht1
    obtain ⟨bP, oP, KF, cF, bk, ok, rfl, hbP, g2, hcF, hmF, rfl, hKo, hEy⟩ := outAt HI1.out.prog HC.out.fn HC.out.out
    have hml : m < P.length := (List.getElem?_eq_some_iff.1 HC.out.fn).1
    have hml2 : (m : Int) < (P.length : Int) := by omega
    have hpl : pi < ks.len := by have := Es.get?_lt HC.out.out; have := (HC.out.loop rfl).2.2; omega
    have hpl2 : (pi : Int) < (ks.len : Int) := by omega
    have hC8 : C ≤ 8 := by have := (HC.out.loop rfl).2.1; omega
    have hol : g.outs.len = ks.len := (HC.out.loop rfl).2.2
    have hcpp : cp ≤ 9223372036854775807 := by unfold maxLen at hcm; omega
    have hbPw : bP < w1.heap.size := by omega
    obtain ⟨R, hR⟩ : ∃ R, R = evLoop (ev (ops n) P f) g.outs C zss t1 := ⟨_, rfl⟩
    have HRW : Hid (rr = pickR pi R) := by show _ = _; rw [HRR.out, HEV.out, hR]
    have HLR : Hid (LoopR n P f g.outs R (C - 0) zss t1 0) := ⟨fun _ => ⟨t1, rfl, HT1.out, by have := HT2.out; omega, hR⟩, fun h => absurd rfl h⟩
    have HALL := Lib.hid (all_of P n f HIH.out)
    have HOL := Lib.hid hol
    have HG2 := Lib.hid g2
    have HKO := Lib.hid hKo
    have a0 : w1.cell? ⟨bv, 0, none⟩ = some (.slice (some ⟨bP, oP, none⟩) P.length pcap) := by rw [HS1.out.cell]; rfl
    clear hR HEV HRR hEy hol g2 hKo a0
    go_wp2
    go_loopw [7, 8] (fun kd i wr => ∃ (q : Nat) (A1 : Option Addr) (cp : Nat) (zs : List (List Int)) (s' c' : Int), i = .int .i64 (q : Int) ∧ kd = .slice A1 ks.len cp ∧ q ≤ C ∧ ks.len ≤ cp ∧ cp ≤ maxLen ∧ Hid (zs.length = ks.len) ∧ Hid (EnvAt wr bv n A1 zs) ∧ Hid (Cells wr bv 109 (hdI n P (some ⟨bP, oP, none⟩) pcap ++ [.int .i64 s', .int .i64 c'])) ∧ Hid (Only (fun q => q = bv) w1 wr) ∧
      Hid (Cells wr w.heap.size 81 [.int .i64 11, .int .i64 m, .int .i64 pi, .int .i64 C, .slice K ks.len cap]) ∧ Hid (LoopR n P f g.outs R (C - q) zs s' c')) (fun _ i _ => C - (intOf i).toNat)
    case atStart => exact ⟨0, A1, cp, zss, t1, 0, by go_num, rfl, Nat.zero_le _, hcp, hcm, HL, HE, HS1, Only.refl _ _, HX1, HLR⟩
    case round =>
      clear HL HE HS1 HX1 HLR c3 x0 x1 x2 x3 hcp hcm hcpp
      obtain ⟨q, A1, cp, zs, s', c', rfl, rfl, hq, hcp, hcm, HL, HE, HS1, HO3, HX1, HLR⟩ := hrel
      have hcpp : cp ≤ 9223372036854775807 := by unfold maxLen at hcm; omega
      have c3 : wr.cell? ⟨bv, 3, none⟩ = some (.int .i64 c') := by rw [HS1.out.cell]; rfl
      have c0 : wr.cell? ⟨bv, 0, none⟩ = some (.slice (some ⟨bP, oP, none⟩) P.length pcap) := by rw [HS1.out.cell]; rfl
      have x1 : wr.cell? ⟨w.heap.size, 1, none⟩ = some (.int .i64 m) := by rw [HX1.out.cell]; rfl
      have x2 : wr.cell? ⟨w.heap.size, 2, none⟩ = some (.int .i64 pi) := by rw [HX1.out.cell]; rfl
      have x3 : wr.cell? ⟨w.heap.size, 3, none⟩ = some (.int .i64 C) := by rw [HX1.out.cell]; rfl
      have clr : bv < wr.heap.size := HS1.out.lt
      have xlr : w.heap.size < wr.heap.size := HX1.out.lt
      obtain ⟨b1, o1, Az, cz, rfl, hb1, _, g0, hz0⟩ := HE.out.sat (j := pi) (by rw [HL.out]; exact hpl)
      by_cases hlt : q < C
      · have hltI : (q : Int) < (C : Int) := by omega
        by_cases hc : c' = 0
        · subst hc
          have g2 : wr.cell? ⟨bP, oP + m * 3 + 2, none⟩ = some (.slice (some ⟨bk, ok, none⟩) g.outs.len cF) := (HO3.out.cell (a := ⟨bP, _, none⟩) hbPw (show ¬ bP = bv by omega)).trans HG2.out
          rw [HOL.out] at g2
          have hbPr : bP < wr.heap.size := by have := HO3.out.size; omega
          have hd : Only (fun q => q = bv) wr wr.drew := (Only.refl _ wr).drewN 1
          have hI3 := HI1.out.only (HO3.out.trans hd)
          have hls : LsIn wr.drew B bv n P m g.outs (some ⟨bk, ok, none⟩) cF (some ⟨b1, o1, none⟩) zs cp := ⟨HKO.out.below (only_below (HO3.out.trans hd) hB cl), hcF, hmF, HE.out.only hd, by rw [HL.out]; exact hcp, hcm, by rw [HL.out]; have := HC.out.p12; have := HC.out.dep; omega, HC.out.size, fun j z hz => by rw [HL.out]; exact (HC.out.each j z hz).1, by omega, by omega⟩
          have hcall := HALL.out g.outs zs s' s'.toNat 0 m (some ⟨bk, ok, none⟩) cF B bv (some ⟨b1, o1, none⟩) (some ⟨bP, oP, none⟩) cp pcap wr.drew hI3 (HS1.out.drewN 1) HLR.out.now hls
          rw [HL.out, HOL.out] at hcall
          have HCALL := Lib.hid hcall
          have HLR1 : Hid (LoopR n P f g.outs R (C - (q + 1) + 1) zs s' 0) := by have := HLR.out; rwa [show C - q = C - (q + 1) + 1 by omega] at this
          clear hcall hls hI3 hd HLR g0 hz0 HE
          go_wp2_with fail
          go_still_tail 12, (by kernel_rfl)
          change wpList _ _ _ _ _ wr.drew
          go_wp2_with fail
          refine HCALL.out.mono ?_; rintro e w2 ⟨A3, cp3, zs3, s3, c3', rfl, hl3, hcp3, hcm3, hE3, hS3, hO4, hres3⟩
          have HO5 : Hid (Only (fun q => q = bv) w1 w2) := (HO3.out.drewN 1).trans hO4
          have HX5 := Lib.hid (only_cells (HX1.out.drewN 1) hO4 (by omega))
          have HL5 := Lib.hid hl3
          have HE5 := Lib.hid hE3
          have HS5 := Lib.hid hS3
          have HLR5 := Lib.hid (HLR1.out.step hres3)
          clear hl3 hE3 hS3 hO4 hres3 HX1 HS1 HO3 c0 x1 x2 x3 g2 HCALL HL HLR1
          go_wp2
          go_roundw
          case rel => exact ⟨q + 1, A3, cp3, zs3, s3, c3', by go_num, rfl, by omega, hcp3, hcm3, HL5, HE5, HS5, HO5, HX5, HLR5⟩
          case measure => simp [intOf]; omega
        · have hP := loopEnd (cp := cz) (HO2.out.trans HO3.out) HS1.out hz0 HLR.out (fun h => absurd h hc) HRW.out
          have HP := Lib.hid hP
          have hc1 : (c' == 0) = false := by simpa using hc
          clear hP hz0 hc
          go_wp2
          go_ret
          exact HP.out
      · obtain rfl : q = C := by omega
        have hP := loopEnd (cp := cz) (HO2.out.trans HO3.out) HS1.out hz0 HLR.out (fun h => by omega) HRW.out
        have HP := Lib.hid hP
        clear hP hz0
        go_wp2
        go_ret
        exact HP.out
  · have HB := Lib.hid (evAC_bad hres hc rfl)
    have hc1 : (c' != 0) = true := by simpa using hc
    clear hX1 hO1 hO2 hE hres hl hc x0 x1 x2 x3 xl
    go_wp2_with fail
    refine (constI_any n bv 109 _ _ _ 0 w1 (by omega) (by omega) HS1.out).mono ?_; rintro e w2 h
    obtain ⟨Ar, cr, rfl, hp⟩ := deadEnd (R := rr) HO2.out HS1.out h (by rw [HRR.out, HB.out])
    have HP := Lib.hid hp
    clear hp h hS1
    go_wp2
    go_ret
    exact HP.out

end Go.Proofs.Ytlnikpjcggfdmaa

/- The program's evaluator, whole. -/
namespace Go.Proofs.Ytlnikpjcggfdmaa
open Go.RowKit Plain

theorem formed_kinds {P : List Fn} {fn vars : Int} {x : Nd} (h : formed P fn vars x = true) : 1 ≤ x.k ∧ x.k ≤ 11 := by
  unfold formed at h
  rw [Bool.and_eq_true] at h
  by_cases hr : x.k < 1 ∨ 11 < x.k
  · rw [nodeOk_none hr] at h; cases h.1
  · omega
theorem value_any (P : List Fn) (n : Nat) : ∀ f : Nat, ValueC P n f := by
  intro f
  induction f with
  | zero =>
    intro x env s t c0 fn K cap B bv A PA ecap pcap w hI hst hf hN
    have hc : c0 ≠ 0 := fun h => by have := hf h; omega
    have hv := value_dead P x n 0 env s c0 K cap B bv A PA ecap pcap w hI hst hc
    unfold evC
    rw [if_neg hc]
    exact hv
  | succ f IH =>
    intro x env s t c0 fn K cap B bv A PA ecap pcap w hI hst hf hN
    by_cases hc : c0 = 0
    · obtain ⟨rfl, ht, hft⟩ := hf hc
      subst hc
      unfold evC
      rw [if_pos rfl]
      by_cases hs : t < 3000
      · have hk := formed_kinds hN.form
        have hform := hN.form
        obtain ⟨xk, xn, xp, xc, xks⟩ := x
        simp only at hk hform hN ⊢
        by_cases k1 : xk = 1
        · subst k1
          have h1 := hform
          unfold formed at h1
          rw [Bool.and_eq_true] at h1
          simp only at h1
          rw [nodeOk_leaf1] at h1
          simp only [Bool.and_eq_true] at h1
          have hb := inR_true.1 h1.1.2.2
          have hv := value_num P ⟨1, xn, xp, xc, xks⟩ n env t K cap B bv A PA ecap pcap w hI hst rfl hs hb.1 hb.2
          rw [ev, if_neg (by omega), if_pos rfl]
          exact hv
        by_cases k2 : xk = 2
        · subst k2
          have h1 := hform
          unfold formed at h1
          rw [Bool.and_eq_true] at h1
          simp only at h1
          rw [nodeOk_leaf2] at h1
          simp only [Bool.and_eq_true] at h1
          have hb := inR_true.1 h1.1.2.2
          obtain ⟨j, rfl⟩ := Int.eq_ofNat_of_zero_le hb.1
          have hj : j < env.length := by omega
          have hem := hN.em
          have hel := hN.el
          have hv := value_var P ⟨2, j, xp, xc, xks⟩ n env t j env[j] K cap B bv A PA ecap pcap w hI hst hN.envA (by unfold maxLen at hem; omega) rfl rfl hs (List.getElem?_eq_getElem hj)
          rw [ev, if_neg (by omega), if_neg (by show ¬ (2 : Int) = 1; omega), if_pos rfl]
          have e : env.getD (j : Int).toNat [] = env[j] := by simp [List.getD, hj]
          simp only
          rw [e]
          exact hv
        by_cases k8 : xk = 8
        · exact value_if P _ n f IH env t fn K cap B bv A PA ecap pcap w hI hst hN k8 hs hft
        by_cases k9 : xk = 9
        · exact value_let P _ n f IH env t fn K cap B bv A PA ecap pcap w hI hst hN k9 hs hft
        by_cases k3 : xk = 3
        · exact value_op3 P _ n f IH env t fn K cap B bv A PA ecap pcap w hI hst hN k3 hs hft
        by_cases k4 : xk = 4
        · exact value_op4 P _ n f IH env t fn K cap B bv A PA ecap pcap w hI hst hN k4 hs hft
        by_cases k5 : xk = 5
        · exact value_op5 P _ n f IH env t fn K cap B bv A PA ecap pcap w hI hst hN k5 hs hft
        by_cases k6 : xk = 6
        · exact value_op6 P _ n f IH env t fn K cap B bv A PA ecap pcap w hI hst hN k6 hs hft
        by_cases k7 : xk = 7
        · exact value_op7 P _ n f IH env t fn K cap B bv A PA ecap pcap w hI hst hN k7 hs hft
        obtain ⟨m, pi, g, y, hn, hp, _, hC⟩ := callIn hI.ok hform (by omega) hN.f1
        subst hn hp
        by_cases k10 : xk = 10
        · subst k10
          exact value_call P m pi xc xks n f IH env t fn K cap B bv A PA ecap pcap w hI hst hN g y hC hs hft
        · obtain rfl : xk = 11 := by omega
          obtain ⟨C, rfl⟩ := Int.eq_ofNat_of_zero_le (hC.loop rfl).1
          exact value_loop P m pi C xks n f IH env t fn K cap B bv A PA ecap pcap w hI hst hN g y hC hs hft
      · obtain rfl : t = 3000 := by omega
        have hv := value_full P x n env K cap B bv A PA ecap pcap w hI hst
        rw [ev, if_pos (by omega)]
        exact hv
    · have hv := value_dead P x n 0 env s c0 K cap B bv A PA ecap pcap w hI hst hc
      unfold evC
      rw [if_neg hc]
      exact hv
theorem all_any (P : List Fn) (n f : Nat) : AllC P n f := all_of P n f (value_any P n f)

end Go.Proofs.Ytlnikpjcggfdmaa
