/- Walk of the program's plan: the short ones. -/
import Derived.Test.YtnbpcdcdfkfmiaaWPlan1
namespace Go.Proofs.Ytnbpcdcdfkfmiaa
open Go.RowKit Plain

section
variable (p : Nat) (A : Option Addr) (cap : Nat) (ws : List Int) (S : Nat) (rc rs base : Nat)

set_option maxRecDepth 100000 in
set_option maxHeartbeats 1000000 in
theorem plan_one (a c : Nat) (held : Bool) (Av : Option Addr) (cv : Nat) (out : List (Int × Int)) (w : World) (mc ms : List ((Int × Int × Int) × Value))
    (hP : PlanAt w p A cap ws S rc rs mc ms) (hR : ActRow w base (.slice Av out.length cv) out) (ha : a ≤ 40) (ho : out.length ≤ 1000) (hb : base ≤ w.heap.size)
    (hp : p < base) (hc : rc < base) (hs : rs < base) (hA : ∀ q, InB ws.length A q → q < base) :
    Calls Try.prog 40 #[.pointer (some ⟨p, 0, none⟩), .int .i64 a, .int .i64 ((a : Int) + 1), .int .i64 c, .bool held, .slice Av out.length cv] w
      (PlanPost p A cap ws S rc rs base (out ++ [(4, 0)]) w) := by
  obtain ⟨i0, hi, hz0, hz1, hz2⟩ := info_parts Try.infoA
  have HR := Lib.hid hR; clear hR
  have HP := Lib.hid hP; clear hP
  go_enter Try.func40, Try.ntmps40
  go_wp2_with (at_builtin; go_loud (refine wpList_append_own _ rfl _ _ 30 rfl base 68 i0 (act 0 0) 2 16 Try.underlying30 hi hz0 hz1 hz2 rfl (by decide) _ out.length _ rfl (HR.out.own.alloc _) ⟨w.heap.size, 0, none⟩ 1 1 [.int .i64 4, .int .i64 0] rfl rfl ?c1 ?c2 ?c3 ?c4 ?c5 ?_))
  try (case c1 => intro j u hj; match j with | 0 => (simp at hj; subst hj; simp [addr_add]) | 1 => (simp at hj; subst hj; simp [addr_add]) | j + 2 => simp at hj)
  try (case c2 => first | rfl | (intro u hu; simp at hu; rcases hu with rfl | rfl <;> rfl))
  case c3 => unfold maxLen; omega
  case c4 => omega
  case c5 => simp; try omega
  · intro v2 w2 hown hg _
    obtain ⟨hR2, hO2⟩ := ActRow.push _ rfl hown hg
    obtain ⟨g2, cp2, rfl, _, _⟩ := World.ownsRow.form hown (by omega)
    clear hown hg
    have hlo : ∀ q, (Value.slice Av out.length cv).ownBlock = some q → base ≤ q := fun q hq => (HR.out.lt hq).1
    go_wp2
    go_ret
    have e : (out ++ [((4 : Int), (0 : Int))]).length = out.length + 1 := by simp
    unfold PlanPost
    rw [e]
    refine ⟨_, _, rfl, hR2, ⟨mc, ms, HP.out.high (fun k hk hkl => hO2.block k hkl (fun hq => by have := hlo k hq; omega)) hO2.size hp hc hs hA⟩, (Only.refl _ w).chain hO2 (fun q _ hq => .inr (hlo q hq))⟩
end

end Go.Proofs.Ytnbpcdcdfkfmiaa
