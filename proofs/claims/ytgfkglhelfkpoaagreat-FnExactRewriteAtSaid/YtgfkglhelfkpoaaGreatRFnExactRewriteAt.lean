/- FnExactRewriteAt: for all arguments the program's RewriteAt returns what the reference's returns, in memory of its own, and changes no argument. No condition. -/
import Derived.Test.YtgfkglhelfkpoaaGreatRRK
import Derived.Test.YtgfkglhelfkpoaaGreatRRL
set_option maxRecDepth 100000
set_option maxHeartbeats 1000000
open Go.Proofs.Tryz
namespace Go.Proofs.YtgfkglhelfkpoaaGreat.fnExactRewriteAt
open Go.ChangeShapes Go.WideShapes Go.ChangeAt Go.RowKit
theorem over:Rows.fnExactRewriteAtRow.holds Tryz.pinned (OpenSpec.ofChange Rows.fnExactRewriteAtSpec):=
 OpenClaim.holds_of_wide 4 f4 rfl rfl rfl rfl rfl rfl rfl ⟨rfl,rfl,rfl,rfl,rfl⟩ rfl rfl rfl rfl rfl nmd func4 joined inst wrap
  (λos started H enc _=>lifted os started H enc)
theorem proved:Rows.FnExactRewriteAtSaid:=over
#print axioms proved
end Go.Proofs.YtgfkglhelfkpoaaGreat.fnExactRewriteAt
