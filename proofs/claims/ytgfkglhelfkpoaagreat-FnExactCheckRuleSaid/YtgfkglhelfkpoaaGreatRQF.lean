/- Texts put together: FcCheckRule. -/
import Derived.Test.YtgfkglhelfkpoaaGreatRows
import Derived.WalkKit
import Derived.ProofKit
import Derived.OpenShut
import Derived.ShutString
import Derived.ChangeOld
import Derived.Below
set_option maxRecDepth 100000
set_option maxHeartbeats 1000000
namespace Go.Proofs.YtgfkglhelfkpoaaGreat.fnExactCheckRule
open Go.ChangeShapes Go.WideShapes Go.ChangeAt Go.RowKit
theorem joined:joinedFacts Tryz.pinned.checked.prog 3 Tryz.f3 Rows.fnExactCheckRuleSpec Rows.fnExactCheckRuleRow=true:=by kernel_rfl
end Go.Proofs.YtgfkglhelfkpoaaGreat.fnExactCheckRule
