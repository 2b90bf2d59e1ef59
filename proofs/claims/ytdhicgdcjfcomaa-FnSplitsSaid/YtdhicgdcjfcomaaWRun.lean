/- Walks of the reference's run of a schedule: l06Begin, possible, act, l06Bad. -/
import Derived.Test.YtdhicgdcjfcomaaPChain
namespace Go.Proofs.Ytdhicgdcjfcomaa
open Go.RowKit Plain

abbrev vi (x : Int) : Value := .int .i64 x

/-- the slice value v reads as slots, in memory of the call's own from base on -/
def SlotsAt (w : World) (base : Nat) (v : Value) (l : List Int) : Prop := w.ownsRow base 2 1 v l.length (l.map vi)

theorem SlotsAt.form {w : World} {base : Nat} {v : Value} {l : List Int} (h : SlotsAt w base v l) : ∃ A cap, v = .slice A l.length cap := by
  rcases h.2 with ⟨hv, h0⟩ | ⟨g, cap, _, hv, _⟩
  · exact ⟨none, 0, by rw [hv, h0]⟩
  · exact ⟨_, _, hv⟩
theorem SlotsAt.at_ {w : World} {base cap : Nat} {A : Option Addr} {l : List Int} (h : SlotsAt w base (.slice A l.length cap) l) {k : Nat} (hk : k < l.length) :
    ∃ g x, A = some ⟨g, 0, none⟩ ∧ base ≤ g ∧ g < w.heap.size ∧ l[k]? = some x ∧ w.cell? ⟨g, k, none⟩ = some (vi x) ∧ w.frozen? ⟨g, k, none⟩ = false := by
  obtain ⟨g, cap', hv, hb, hlt⟩ := World.ownsRow.form h (by omega)
  have hA : A = some ⟨g, 0, none⟩ := by injection hv
  have hc : cap = cap' := by injection hv
  subst hA
  subst hc
  refine ⟨g, l[k], rfl, hb, hlt, List.getElem?_eq_getElem hk, ?_, World.ownsRow.frozenAt h k⟩
  rw [World.ownsRow.cellAt h k (by omega)]
  simp [hk]
theorem SlotsAt.keep {w w' : World} {base : Nat} {v : Value} {l : List Int} (h : SlotsAt w base v l) (hb : ∀ g, v.ownBlock = some g → w'.heap[g]? = w.heap[g]?) : SlotsAt w' base v l := by
  refine ⟨h.1, ?_⟩
  rcases h.2 with hn | ⟨g, cap, cur, rfl, hb', hgg, rest⟩
  · exact .inl hn
  · exact .inr ⟨g, cap, cur, rfl, hb', by rw [hb g rfl]; exact hgg, rest⟩
theorem SlotsAt.next {w w' : World} {base : Nat} {v : Value} {l : List Int} (h : SlotsAt w base v l) (hb : Below w.heap.size w w') : SlotsAt w' base v l :=
  h.keep fun g hg => hb.block g (World.ownsRow.lt h g hg).2
theorem SlotsAt.store {w : World} {base g cap : Nat} {l : List Int} (h : SlotsAt w base (.slice (some ⟨g, 0, none⟩) l.length cap) l) (k : Nat) (x : Int) :
    SlotsAt (w.setCell ⟨g, k, none⟩ (vi x)) base (.slice (some ⟨g, 0, none⟩) l.length cap) (l.set k x) := by
  rcases h with ⟨h1, ⟨hv, _⟩ | ⟨g', cap', cur, hv, hb, hgg, hnc, hm, hcs, hcur⟩⟩
  · cases hv
  · obtain rfl : g = g' := by injection hv with h; injection h with h; injection h
    obtain rfl : cap = cap' := by injection hv
    refine ⟨by simp, .inr ⟨g, cap, cur.setIfInBounds k (vi x), by simp, hb, ?_, by simpa using hnc, hm, by simpa using hcs, ?_⟩⟩
    · simp [World.setCell, Array.getElem?_modify, hgg]
    · simp only [Nat.mul_one, List.length_set, Array.toList_setIfInBounds]
      rw [List.take_set]
      simp only [Nat.mul_one] at hcur
      rw [hcur, List.map_set]

/-- the reference's run behind p -/
structure RunAt (w : World) (p base : Nat) (v : Value) (c : Ch) : Prop where
  cells : Cells w p 59 [vi c.state, vi c.left, v]
  slots : SlotsAt w base v c.slots
  lt : p < base
theorem RunAt.next {w w' : World} {p base : Nat} {v : Value} {c : Ch} (h : RunAt w p base v c) (hb : Below w.heap.size w w') : RunAt w' p base v c :=
  ⟨h.cells.next hb, h.slots.next hb, h.lt⟩
theorem RunAt.size {w : World} {p base : Nat} {v : Value} {c : Ch} (h : RunAt w p base v c) : p < w.heap.size := h.cells.lt

def BeginPost (n ns : Nat) (w : World) (e : Ending) (w' : World) : Prop :=
  e = .returned (.pointer (some ⟨w.heap.size, 0, none⟩)) ∧ ∃ v, RunAt w' w.heap.size (w.heap.size + 1) v (newC n ns) ∧ Below w.heap.size w w'

set_option maxRecDepth 100000 in
set_option maxHeartbeats 1000000 in
theorem begin_any (n ns : Nat) (w : World) (_hn : n ≤ 40) (hs : ns ≤ 8) :
    Calls Try.prog 27 #[.int .i64 n, .int .i64 ns] w (BeginPost n ns w) := by
  obtain ⟨i0, hi, hz0, hz1, hz2⟩ := info_parts Try.infoI
  go_enter Try.func27, Try.ntmps27
  go_wp2
  go_loopw [6] (fun i wr => ∃ (k : Nat) (v : Value), k ≤ ns ∧ i = .int .i64 (k : Int) ∧ Hid (Cells wr w.heap.size 59 [vi 0, vi n, v]) ∧ Hid (SlotsAt wr (w.heap.size + 1) v (List.replicate k (-1))) ∧ Hid (Below w.heap.size w wr)) (fun i _ => (ns - intOf i).toNat)
  case atStart => exact ⟨0, .slice none 0 0, by omega, by go_num, Cells.new w _ [vi 0, vi n, .slice none 0 0], World.ownsRow_nil _ _ _ _, by show Below _ _ _; go_grown⟩
  case round =>
    obtain ⟨k, v, hk, rfl, HC, HS, HB⟩ := hrel
    by_cases hlt : (k : Int) < (ns : Int)
    · have f2 : wr.cell? ⟨w.heap.size, 2, none⟩ = some v := by rw [HC.out.cell]; rfl
      have hsz := HC.out.lt
      have HS2 : Hid (wr.ownsRow (w.heap.size + 1) 2 1 v k (List.replicate k (vi (-1)))) := by
        have h := HS.out
        unfold SlotsAt at h
        show wr.ownsRow _ _ _ _ _ _
        simpa using h
      go_wp2_with (at_builtin; refine wpList_append_own _ rfl _ _ 25 rfl (w.heap.size + 1) 2 i0 (.int .i64 0) 1 8 Try.underlying25 hi hz0 hz1 hz2 rfl (by decide) _ k _ rfl (HS2.out.alloc _) ⟨wr.heap.size, 0, none⟩ 1 1 [vi (-1)] rfl rfl ?c1 ?c2 ?c3 ?c4 ?c5 ?_)
      case c1 => exact cell_one_new _ _ _
      case c2 => intro u hu; simp at hu; subst hu; rfl
      case c3 => unfold maxLen; omega
      case c4 => omega
      case c5 => simp; omega
      · intro v' w2 hown hg _
        obtain ⟨g, cap, rfl, hgb, _⟩ := World.ownsRow.form hown (by omega)
        have hpn : some w.heap.size ≠ v.ownBlock := by
          intro e
          have := (World.ownsRow.lt HS2.out _ e.symm).1
          omega
        have hC2 : Cells w2 w.heap.size 59 [vi 0, vi n, v] := (hg.block _ (by simp; omega) hpn).trans (HC.out.next ((Below.refl _ _).alloc (Nat.le_refl _) _))
        have f3 : w2.cell? ⟨w.heap.size, 2, none⟩ = some v := by rw [hC2.cell]; rfl
        have f4 : w2.frozen? ⟨w.heap.size, 2, none⟩ = false := hC2.frozen 2
        have HC3 := Lib.hid (hC2.set_ 2 (.slice (some ⟨g, 0, none⟩) (k + 1) cap))
        have HB3 : Hid (Below w.heap.size w (w2.setCell ⟨w.heap.size, 2, none⟩ (.slice (some ⟨g, 0, none⟩) (k + 1) cap))) :=
          (((HB.out.alloc HB.out.size _).grown hg (by have := HB.out.size; simp; omega) (fun q hq => by have := (World.ownsRow.lt HS2.out q hq).1; omega))).setCell (Nat.le_refl _) _
        have HS3 : Hid (SlotsAt (w2.setCell ⟨w.heap.size, 2, none⟩ (.slice (some ⟨g, 0, none⟩) (k + 1) cap)) (w.heap.size + 1) (.slice (some ⟨g, 0, none⟩) (k + 1) cap) (List.replicate (k + 1) (-1))) := by
          have h0 : SlotsAt w2 (w.heap.size + 1) (.slice (some ⟨g, 0, none⟩) (k + 1) cap) (List.replicate (k + 1) (-1)) := by
            unfold SlotsAt
            simp only [List.length_replicate, List.map_replicate]
            rw [show List.replicate (k + 1) (vi (-1)) = List.replicate k (vi (-1)) ++ [vi (-1)] from List.replicate_succ']
            exact hown
          exact h0.keep fun q hq => Below.heap_setCell _ _ _ _ (by
            have : q = g := by simpa [Value.ownBlock] using hq.symm
            simp; omega)
        clear hown hg hC2 HC HS HS2 HB f2 hsz
        go_wp2
        go_roundw
        case rel => exact ⟨k + 1, _, by omega, by go_num, HC3.out, HS3.out, HB3.out⟩
        case measure => simp [intOf]; omega
    · obtain rfl : k = ns := by omega
      go_wp2
      go_ret
      exact ⟨rfl, v, ⟨HC.out, by simpa [newC] using HS.out, Nat.lt_succ_self _⟩, HB.out⟩

theorem alloc_cell (w : World) (p : Nat) (h : p < w.heap.size) (i : Nat) (o : Obj) : (w.alloc o).cell? ⟨p, i, none⟩ = w.cell? ⟨p, i, none⟩ := World.cell?_alloc_lt w o ⟨p, i, none⟩ h
theorem alloc_frozen (w : World) (p : Nat) (h : p < w.heap.size) (i : Nat) (o : Obj) : (w.alloc o).frozen? ⟨p, i, none⟩ = w.frozen? ⟨p, i, none⟩ :=
  World.frozen?_of_block (w := w) (w' := w.alloc o) (a := ⟨p, i, none⟩) (Below.heap_alloc w o p h)

set_option maxHeartbeats 1000000 in
theorem possible_any (n ns j p base : Nat) (v : Value) (c : Ch) (k a : Int) (w : World) (hI : InvC n ns j c) (ha : isAct k a = true) (h : RunAt w p base v c) :
    Calls Try.prog 36 #[.pointer (some ⟨p, 0, none⟩), act k a] w fun e w' => e = .returned (.bool (poss c k a)) ∧ Below w.heap.size w w' := by
  have f0 : w.cell? ⟨p, 0, none⟩ = some (vi c.state) := by rw [h.cells.cell]; rfl
  have f1 : w.cell? ⟨p, 1, none⟩ = some (vi c.left) := by rw [h.cells.cell]; rfl
  have f2 : w.cell? ⟨p, 2, none⟩ = some v := by rw [h.cells.cell]; rfl
  have hal := alloc_cell w p h.size
  have hS := h.slots
  have i1 := hI.n40
  have i2 := hI.ns8
  have i3 := hI.l0
  have i4 := hI.ln
  have i5 := hI.s0
  have i6 := hI.sn
  have i7 : c.slots.length ≤ 8 := by rw [hI.sl]; exact i2
  obtain ⟨A, cap, rfl⟩ := hS.form
  rcases isAct_cases ha with ⟨rfl, h1, h2⟩ | ⟨rfl, h1, h2⟩ | ⟨rfl, h1, h2⟩ | ⟨rfl, rfl⟩
  · have HE : Hid (poss c 1 a = decide (c.state + a < c.left)) := by show _ = _; simp [poss]
    clear hS ha hI h
    go_enter Try.func36, Try.ntmps36
    go_wp2
    go_quiet (fail)
    go_wp2
    go_ret
    exact ⟨ret_bool (by rw [HE.out]; try simp), below_drewN' (by go_grown) _⟩
  · have HE : Hid (poss c 2 a = decide (a < (c.slots.length : Int))) := by show _ = _; simp [poss]
    clear hS ha hI h
    go_enter Try.func36, Try.ntmps36
    go_wp2
    go_quiet (fail)
    go_wp2
    go_ret
    exact ⟨ret_bool (by rw [HE.out]; try simp), below_drewN' (by go_grown) _⟩
  · by_cases hlt : a < (c.slots.length : Int)
    · obtain ⟨g, x, rfl, _, hgl, hx, hcx, _⟩ := hS.at_ (k := a.toNat) (by omega)
      have HE : Hid (poss c 3 a = decide (0 ≤ x)) := by
        have : c.slots.getD a.toNat 0 = x := by simp [List.getD, hx]
        show _ = _
        simp only [poss]
        rw [if_neg (by omega), if_neg (by omega), if_pos trivial, this]
        simp [hlt]
      have hal2 := alloc_cell w g hgl
      have ha0 : 0 ≤ a := h1
      clear hS ha hI h hx
      go_enter Try.func36, Try.ntmps36
      go_wp2
      go_quiet (fail)
      go_wp2
      go_ret
      exact ⟨ret_bool (by rw [HE.out]; try simp), below_drewN' (by go_grown) _⟩
    · have HE : Hid (poss c 3 a = false) := by
        show _ = _
        simp only [poss]
        rw [if_neg (by omega), if_neg (by omega), if_pos trivial]
        simp [hlt]
      have hd : decide (a < (c.slots.length : Int)) = false := by simpa using hlt
      clear hS ha hI h
      go_enter Try.func36, Try.ntmps36
      go_wp2
      go_quiet (fail)
      go_wp2
      go_ret
      exact ⟨ret_bool (by rw [HE.out]; try simp), below_drewN' (by go_grown) _⟩
  · have HE : Hid (poss c 4 0 = (c.state == c.left - 1)) := by show _ = _; simp [poss]
    clear hS ha hI h
    go_enter Try.func36, Try.ntmps36
    go_wp2
    go_quiet (fail)
    go_wp2
    go_ret
    exact ⟨ret_bool (by rw [HE.out]; try simp), below_drewN' (by go_grown) _⟩

def ActPost (p base : Nat) (v : Value) (c : Ch) (k a : Int) (w : World) (e : Ending) (w' : World) : Prop :=
  e = .returned (.tuple #[]) ∧ RunAt w' p base v (stepC c k a) ∧ Below p w w'
/-- the blocks of a run -/
def RunBlk (p : Nat) (v : Value) (q : Nat) : Prop := q = p ∨ v.ownBlock = some q
theorem Only.setCell {S : Nat → Prop} {a w : World} (h : Only S a w) {p : Addr} (hp : S p.block) (u : Value) : Only S a (w.setCell p u) :=
  ⟨h.os, h.tape, h.output, by simpa [World.setCell] using h.size, fun k hk hs => (Below.heap_setCell w p u k (fun e => hs (by rw [e]; exact hp))).trans (h.block k hk hs)⟩
theorem Only.drew {S : Nat → Prop} {a w : World} (h : Only S a w) : Only S a w.drew := ⟨h.os, h.tape, h.output, h.size, h.block⟩

set_option maxHeartbeats 1000000 in
theorem act_only (n ns j p base : Nat) (v : Value) (c : Ch) (k a : Int) (w : World) (hI : InvC n ns j c) (ha : isAct k a = true) (hp : poss c k a = true) (h : RunAt w p base v c) :
    Calls Try.prog 37 #[.pointer (some ⟨p, 0, none⟩), act k a] w fun e w' => ActPost p base v c k a w e w' ∧ Only (RunBlk p v) w w' := by
  have f0 : w.cell? ⟨p, 0, none⟩ = some (vi c.state) := by rw [h.cells.cell]; rfl
  have f1 : w.cell? ⟨p, 1, none⟩ = some (vi c.left) := by rw [h.cells.cell]; rfl
  have f2 : w.cell? ⟨p, 2, none⟩ = some v := by rw [h.cells.cell]; rfl
  have z0 : w.frozen? ⟨p, 0, none⟩ = false := h.cells.frozen 0
  have z1 : w.frozen? ⟨p, 1, none⟩ = false := h.cells.frozen 1
  have hal := alloc_cell w p h.size
  have hfr := alloc_frozen w p h.size
  have hS := h.slots
  have i1 := hI.n40
  have i2 := hI.ns8
  have i3 := hI.l0
  have i4 := hI.ln
  have i5 := hI.s0
  have i6 := hI.sn
  have i7 : c.slots.length ≤ 8 := by rw [hI.sl]; exact i2
  obtain ⟨A, cap, rfl⟩ := hS.form
  have hlt := h.lt
  have HR := Lib.hid h
  rcases isAct_cases ha with ⟨rfl, h1, h2⟩ | ⟨rfl, h1, h2⟩ | ⟨rfl, h1, h2⟩ | ⟨rfl, rfl⟩
  · have HE : Hid (stepC c 1 a = advN c a.toNat) := by show _ = _; simp [stepC]
    have HF := Lib.hid (advN_facts c n hI.s0 hI.ol a.toNat)
    have HN : Hid (((c.state : Int) + (a.toNat : Int)) = c.state + a) := by show _ = _; omega
    clear hS ha hI h hp hlt
    go_enter Try.func37, Try.ntmps37
    go_wp2
    have hb1 : Below w.heap.size w (w.alloc (.cells #[vi 1, vi a] 61)) := by go_grown
    go_region
    go_wp2
    go_returns
    have hR1 := (HR.out.next hb1).next ((Below.refl _ _).drew)
    refine ⟨⟨rfl, ?_, ((hb1.mono (Nat.le_of_lt HR.out.size)).drew).setCell (p := ⟨p, 0, none⟩) (Nat.le_refl _) _⟩, ((Only.of_below hb1).drew).setCell (p := ⟨p, 0, none⟩) (.inl rfl) _⟩
    obtain ⟨e1, e2, e3, _⟩ := HF.out
    rw [HE.out]
    refine ⟨?_, ?_, HR.out.lt⟩
    · have hc := hR1.cells.set_ 0 (vi (c.state + a))
      rw [e1, e2, HN.out]
      exact hc
    · rw [e3]
      exact hR1.slots.keep fun g hg => Below.heap_setCell _ _ _ _ (by have := (World.ownsRow.lt hR1.slots g hg).1; have := HR.out.lt; simp; omega)
  · have hq : a < (c.slots.length : Int) := by simpa [poss] using hp
    obtain ⟨g, x, rfl, hbg, hgl, hx, hcx, hfx⟩ := hS.at_ (k := a.toNat) (by omega)
    have HE : Hid (stepC c 2 a = { c with slots := c.slots.set a.toNat c.state, used := putE a (.bool true) c.used, stores := c.stores + 1 }) := by show _ = _; simp [stepC]
    have hal2 := alloc_cell w g hgl
    have hfr2 := alloc_frozen w g hgl
    clear hS ha hI h hp hx
    go_enter Try.func37, Try.ntmps37
    go_wp2
    go_region
    go_wp2
    go_returns
    have h0 : RunAt (w.setCell ⟨g, a.toNat, none⟩ (vi c.state)) p base (.slice (some ⟨g, 0, none⟩) c.slots.length cap) (stepC c 2 a) := by
      rw [HE.out]
      refine ⟨HR.out.cells.far (p := ⟨g, _, none⟩) (by show p ≠ g; omega) _, ?_, HR.out.lt⟩
      have h0 := SlotsAt.store HR.out.slots a.toNat c.state
      unfold SlotsAt at h0 ⊢
      simp only [List.length_set] at h0 ⊢
      exact h0
    have hb0 : Below p w (w.setCell ⟨g, a.toNat, none⟩ (vi c.state)) := (Below.refl _ _).setCell (p := ⟨g, _, none⟩) (by show p ≤ g; omega) _
    have ho0 : Only (RunBlk p (.slice (some ⟨g, 0, none⟩) c.slots.length cap)) w (w.setCell ⟨g, a.toNat, none⟩ (vi c.state)) := (Only.refl _ _).setCell (p := ⟨g, _, none⟩) (.inr rfl) _
    exact ⟨⟨rfl, (h0.next ((Below.refl _ _).alloc (Nat.le_refl _) _)).next ((Below.refl _ _).drew), (hb0.alloc (Nat.le_of_lt h0.size) _).drew⟩, (ho0.trans (Only.of_below ((Below.refl _ _).alloc (Nat.le_refl _) _))).drew⟩
  · have hq : a < (c.slots.length : Int) ∧ 0 ≤ c.slots.getD a.toNat 0 := by simpa [poss] using hp
    obtain ⟨g, x, rfl, hbg, hgl, hx, hcx, hfx⟩ := hS.at_ (k := a.toNat) (by omega)
    have hxd : c.slots.getD a.toNat 0 = x := by simp [List.getD, hx]
    have HE : Hid (stepC c 3 a = { c with state := x, loads := c.loads + 1 }) := by
      show _ = _; unfold stepC; rw [if_neg (by omega), if_neg (by omega), if_pos rfl, hxd]
    have hal2 := alloc_cell w g hgl
    have hq1 := hq.1
    clear hS ha hI h hp hx hq hxd hfx
    go_enter Try.func37, Try.ntmps37
    go_wp2
    have hb1 : Below w.heap.size w (w.alloc (.cells #[vi 3, vi a] 61)) := by go_grown
    go_region
    go_wp2
    go_returns
    have hR1 := (HR.out.next hb1).next ((Below.refl _ _).drew)
    refine ⟨⟨rfl, ?_, ((hb1.mono (Nat.le_of_lt HR.out.size)).drew).setCell (p := ⟨p, 0, none⟩) (Nat.le_refl _) _⟩, ((Only.of_below hb1).drew).setCell (p := ⟨p, 0, none⟩) (.inl rfl) _⟩
    rw [HE.out]
    refine ⟨hR1.cells.set_ 0 (vi x), ?_, HR.out.lt⟩
    exact hR1.slots.keep fun g hg => Below.heap_setCell _ _ _ _ (by have := (World.ownsRow.lt hR1.slots g hg).1; have := HR.out.lt; simp; omega)
  · have hq : c.state = c.left - 1 := by simpa [poss] using hp
    have HE : Hid (stepC c 4 0 = { c with left := c.state }) := by show _ = _; simp [stepC, hq]
    clear hS ha hI h hp hq
    go_enter Try.func37, Try.ntmps37
    go_wp2
    have hb1 : Below w.heap.size w (w.alloc (.cells #[vi 4, vi 0] 61)) := by go_grown
    go_returns
    have hR1 := HR.out.next hb1
    refine ⟨⟨rfl, ?_, (hb1.mono (Nat.le_of_lt HR.out.size)).setCell (p := ⟨p, 1, none⟩) (Nat.le_refl _) _⟩, (Only.of_below hb1).setCell (p := ⟨p, 1, none⟩) (.inl rfl) _⟩
    rw [HE.out]
    refine ⟨hR1.cells.set_ 1 (vi c.state), ?_, HR.out.lt⟩
    exact hR1.slots.keep fun g hg => Below.heap_setCell _ _ _ _ (by have := (World.ownsRow.lt hR1.slots g hg).1; have := HR.out.lt; simp; omega)

theorem act_any (n ns j p base : Nat) (v : Value) (c : Ch) (k a : Int) (w : World) (hI : InvC n ns j c) (ha : isAct k a = true) (hp : poss c k a = true) (h : RunAt w p base v c) :
    Calls Try.prog 37 #[.pointer (some ⟨p, 0, none⟩), act k a] w (ActPost p base v c k a w) :=
  (act_only n ns j p base v c k a w hI ha hp h).mono fun _ _ h => h.1

/-- what the reference's l06Bad returns -/
def badAt (l : List (Int × Int)) (n ns : Nat) : Int := if badV l n ns < 0 then (l.length : Int) else badV l n ns
def badB (l : List (Int × Int)) (n ns : Nat) : Bool := decide (0 ≤ badV l n ns)

end Go.Proofs.Ytdhicgdcjfcomaa
