/- Parts of the proof. -/
import Derived.Test.YtgfkglhelfkpoaaGreatRows
import Derived.WalkKit
import Derived.ProofKit
import Derived.OpenShut
import Derived.ShutString
set_option maxRecDepth 100000
set_option maxHeartbeats 1000000
open Go.Proofs.Tryz
namespace Go.Proofs.YtgfkglhelfkpoaaGreat.fnExactRewriteAt
open Go.ChangeShapes Go.WideShapes Go.ChangeAt Go.RowKit
theorem joined:joinedFacts Tryz.pinned.checked.prog 4 f4 Rows.fnExactRewriteAtSpec Rows.fnExactRewriteAtRow=true:=by kernel_rfl
end Go.Proofs.YtgfkglhelfkpoaaGreat.fnExactRewriteAt
