/- Texts put together: WRuleS4. -/
import Derived.Test.YtmcaphbngfdfiaaKSM

/- Walks of the reference's looks at rules: l05RuleOk. -/
namespace Go.Proofs.Ytmcaphbngfdfiaa
open Go.RowKit Plain

end Go.Proofs.Ytmcaphbngfdfiaa
