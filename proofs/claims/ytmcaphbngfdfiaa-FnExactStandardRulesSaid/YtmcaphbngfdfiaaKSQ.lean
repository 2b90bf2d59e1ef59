/- Texts put together: WRuleL2. -/
import Derived.Test.YtmcaphbngfdfiaaKSP

/- Walk of the law's toRule (printed by gen_ruleL2.py). -/
namespace Go.Proofs.Ytmcaphbngfdfiaa
open Go.RowKit Plain

end Go.Proofs.Ytmcaphbngfdfiaa
