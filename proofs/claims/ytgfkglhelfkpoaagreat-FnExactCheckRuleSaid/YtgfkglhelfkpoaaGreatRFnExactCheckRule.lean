/- FnExactCheckRule: for every rule the program's CheckRule returns what the reference's returns, in memory of its own. No condition. -/
import Derived.Test.YtgfkglhelfkpoaaGreatRQE
import Derived.Test.YtgfkglhelfkpoaaGreatRQF
import Derived.WalkKit
import Derived.ProofKit
import Derived.OpenShut
import Derived.ShutString
import Derived.ChangeOld
import Derived.Below
set_option maxRecDepth 100000
set_option maxHeartbeats 1000000
namespace Go.Proofs.YtgfkglhelfkpoaaGreat.fnExactCheckRule
open Go.ChangeShapes Go.WideShapes Go.ChangeAt Go.RowKit
theorem over:Rows.fnExactCheckRuleRow.holds Tryz.pinned (OpenSpec.ofChange Rows.fnExactCheckRuleSpec):=
 OpenClaim.holds_of_wide 3 Tryz.f3 rfl rfl rfl rfl rfl rfl rfl ⟨rfl,rfl,rfl,rfl,rfl⟩ rfl rfl rfl rfl rfl nmd Tryz.func3 joined inst wrap
  (fun os started H enc _=>lifted os started H enc)
theorem proved:Rows.FnExactCheckRuleSaid:=over
#print axioms proved
end Go.Proofs.YtgfkglhelfkpoaaGreat.fnExactCheckRule
