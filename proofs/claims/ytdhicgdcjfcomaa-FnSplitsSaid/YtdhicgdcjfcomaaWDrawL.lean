/- Walks: the drawing of a schedule: l06DrawList. -/
import Derived.Test.YtdhicgdcjfcomaaPRound
import Derived.StillTailTactics
import Derived.BigQuiet
import Derived.Deep.LoopGhost
import Derived.Deep.CutRange
namespace Go.Proofs.Ytdhicgdcjfcomaa
open Go.RowKit Plain

/-- what stands when a schedule is being drawn: source p of N bytes, run r, a row from base on -/
structure StD (w0 : World) (p N n ns r base : Nat) (v : Value) (wr : World) (c : Ch) (l : List (Int × Int)) (Av : Option Addr) (cp at_ : Nat) (s : Int) : Prop where
  run : RunAt wr r (r + 1) v c
  row : ActRow wr base (.slice Av l.length cp) l
  inv : InvC n ns l.length c
  src : SrcN wr p N at_ s
  only : Only (fun q => q = p) w0 wr
  size : base ≤ wr.heap.size
  pr : p < r
  wr0 : w0.heap.size ≤ r
  rb : r < base
  vb : ∀ q, v.ownBlock = some q → r < q ∧ q < base
theorem Only.upto {p r : Nat} {w0 wr w' : World} (h : Only (fun q => q = p) w0 wr) (hr : w0.heap.size ≤ r) (hb : Below r wr w') (hs : wr.heap.size ≤ w'.heap.size) : Only (fun q => q = p) w0 w' :=
  h.chain (Only.ofB hb hs) (fun q hq h => absurd h (by omega))
theorem StD.drewN {w0 : World} {p N n ns r base : Nat} {v : Value} {wr : World} {c : Ch} {l : List (Int × Int)} {Av : Option Addr} {cp at_ : Nat} {s : Int} (h : StD w0 p N n ns r base v wr c l Av cp at_ s) (q : Nat) : StD w0 p N n ns r base v (wr.drewN q) c l Av cp at_ s :=
  have hb : Below wr.heap.size wr (wr.drewN q) := below_drewN' (Below.refl _ _) q
  ⟨h.run.next hb, h.row.next hb, h.inv, h.src.below hb, h.only.drewN q, h.size, h.pr, h.wr0, h.rb, h.vb⟩
theorem StD.picked {w0 : World} {p N n ns r base : Nat} {v : Value} {wr w' : World} {c : Ch} {l : List (Int × Int)} {Av : Option Addr} {cp at_ at' : Nat} {s s' : Int} (h : StD w0 p N n ns r base v wr c l Av cp at_ s)
    (hs : SrcN w' p N at' s') (ho : Only (fun q => q = p) wr w') : StD w0 p N n ns r base v w' c l Av cp at' s' where
  run := ⟨(ho.block r h.run.size (by have := h.pr; omega)).trans h.run.cells, h.run.slots.keep fun g hg => ho.block g (World.ownsRow.lt h.run.slots g hg).2 (by have := (h.vb g hg).1; have := h.pr; omega), h.run.lt⟩
  row := h.row.keep fun g hg => ho.block g (h.row.lt hg).2 (by have := (h.row.lt hg).1; have := h.pr; have := h.rb; omega)
  inv := h.inv
  src := hs
  only := h.only.trans ho
  size := Nat.le_trans h.size ho.size
  pr := h.pr
  wr0 := h.wr0
  rb := h.rb
  vb := h.vb
def PickD (w0 : World) (p N n ns r base : Nat) (v : Value) (c : Ch) (l : List (Int × Int)) (Av : Option Addr) (cp at_ : Nat) (s : Int) (m : Int) (e : Ending) (w' : World) : Prop :=
  ∃ x at' s', e = .returned (.int .i64 x) ∧ PickR m N at_ s at' s' x ∧ StD w0 p N n ns r base v w' c l Av cp at' s'
theorem pickD {w0 : World} {p N n ns r base : Nat} {v : Value} {wr : World} {c : Ch} {l : List (Int × Int)} {Av : Option Addr} {cp at_ : Nat} {s : Int} (h : StD w0 p N n ns r base v wr c l Av cp at_ s) (m : Int) (ha : at_ ≤ 4611686018427387904) (hm : m ≤ 200) :
    Calls Try.prog 13 #[.pointer (some ⟨p, 0, none⟩), .int .i64 m] wr (PickD w0 p N n ns r base v c l Av cp at_ s m) :=
  (pick_st p N at_ s m wr h.src ha hm).mono fun _ _ ⟨x, at', s', he, hr, hs, ho⟩ => ⟨x, at', s', he, hr, h.picked hs ho⟩
def OneD (w0 : World) (p N n ns r base : Nat) (v : Value) (c : Ch) (l : List (Int × Int)) (Av : Option Addr) (cp at_ : Nat) (s : Int) (m : Int) (e : Ending) (w' : World) : Prop :=
  ∃ x at' s', e = .returned (.bool (x == 0)) ∧ PickR m N at_ s at' s' x ∧ StD w0 p N n ns r base v w' c l Av cp at' s'
theorem oneD {w0 : World} {p N n ns r base : Nat} {v : Value} {wr : World} {c : Ch} {l : List (Int × Int)} {Av : Option Addr} {cp at_ : Nat} {s : Int} (h : StD w0 p N n ns r base v wr c l Av cp at_ s) (m : Int) (ha : at_ ≤ 4611686018427387904) (hm : m ≤ 200) :
    Calls Try.prog 14 #[.pointer (some ⟨p, 0, none⟩), .int .i64 m] wr (OneD w0 p N n ns r base v c l Av cp at_ s m) :=
  (one_st p N at_ s m wr h.src ha hm).mono fun _ _ ⟨x, at', s', he, hr, hs, ho⟩ => ⟨x, at', s', he, hr, h.picked hs ho⟩
def DoD (w0 : World) (p N n ns r base : Nat) (v : Value) (c : Ch) (l : List (Int × Int)) (at_ : Nat) (s : Int) (k a : Int) (e : Ending) (w' : World) : Prop :=
  ∃ c' l' Av' cp', e = .returned (.slice Av' l'.length cp') ∧ DoR c l k a c' l' ∧ l'.length ≤ l.length + 1 ∧ StD w0 p N n ns r base v w' c' l' Av' cp' at_ s
theorem doD {w0 : World} {p N n ns r base : Nat} {v : Value} {wr : World} {c : Ch} {l : List (Int × Int)} {Av : Option Addr} {cp at_ : Nat} {s : Int} (h : StD w0 p N n ns r base v wr c l Av cp at_ s) (k a : Int) (hl : l.length ≤ 1000) :
    Calls Try.prog 28 #[.pointer (some ⟨r, 0, none⟩), .slice Av l.length cp, .int .i64 k, .int .i64 a] wr (DoD w0 p N n ns r base v c l at_ s k a) :=
  (do_any n ns r (r + 1) base cp v c l Av k a wr h.inv h.run h.row hl h.rb (fun q hq => (h.vb q hq).2) h.size).mono fun e w' ⟨c', l', Av', cp', he, hd, hi, hr, hrow, hb, hs, hlen⟩ =>
    ⟨c', l', Av', cp', he, hd, hlen, ⟨hr, hrow, hi, h.src.only (Only.ofB hb hs) (fun q hq h2 => by have := h.pr; omega), h.only.upto h.wr0 hb hs, Nat.le_trans h.size hs, h.pr, h.wr0, h.rb, h.vb⟩⟩

theorem PickR.at_ {m x s s' : Int} {N a b : Nat} (h : PickR m N a s b s' x) : b ≤ a + 1 := by
  rcases h.2 with ⟨_, _, h, _⟩ | ⟨_, _, h, _⟩ <;> omega
def bbN (N : Nat) : Nat := N + 281474976710657
theorem bbN_eq (N : Nat) : bbN N = N + 281474976710657 := rfl
theorem two48 : (2 : Nat) ^ 48 = 281474976710656 := by decide
theorem budget_mul (a b B : Nat) (h : a < b) : a * B + B ≤ b * B := by
  have : (a + 1) * B ≤ b * B := Nat.mul_le_mul_right _ h
  rwa [Nat.succ_mul] at this
/-- what the rounds to come may cost -/
def Budget (ns N at_ : Nat) (s : Int) (len g : Nat) : Prop :=
  ∃ M, Slack (strideOf ns) N at_ s M ∧ M < bbN N ∧ (300 - len) * bbN N + M ≤ g ∧ at_ + 8 * g ≤ 1000000000000000000
theorem budget_grown {ns N at_ at' len len' g M : Nat} {s' : Int} (h3 : (300 - len) * bbN N + M ≤ g) (h4 : at_ + 8 * g ≤ 1000000000000000000) (hl : len < 300) (hl' : len < len') (ha : at' ≤ at_ + 6) : 0 < g ∧ Budget ns N at' s' len' (g - 1) := by
  have e := budget_mul (300 - len') (300 - len) (bbN N) (by omega)
  have hf := Slack.fresh (stride_ok ns) N at' s'
  have hB := bbN_eq N
  rw [two48] at hf
  obtain ⟨x, hx⟩ : ∃ x, x = (300 - len') * bbN N := ⟨_, rfl⟩
  obtain ⟨y, hy⟩ : ∃ y, y = (300 - len) * bbN N := ⟨_, rfl⟩
  rw [← hy] at h3 e
  rw [← hx] at e
  refine ⟨by omega, N + 281474976710656, hf, by omega, ?_, by omega⟩
  rw [← hx]
  omega
theorem budget_waits {ns N at_ at' len g M : Nat} {s' : Int} (h2 : M < bbN N) (h3 : (300 - len) * bbN N + M ≤ g) (h4 : at_ + 8 * g ≤ 1000000000000000000)
    (hM : 0 < M) (hS : Slack (strideOf ns) N at' s' (M - 1)) (ha : at' ≤ at_ + 6) : 0 < g ∧ Budget ns N at' s' len (g - 1) := by
  obtain ⟨x, hx⟩ : ∃ x, x = (300 - len) * bbN N := ⟨_, rfl⟩
  rw [← hx] at h3
  refine ⟨by omega, M - 1, hS, by omega, ?_, by omega⟩
  rw [← hx]
  omega

end Go.Proofs.Ytdhicgdcjfcomaa
