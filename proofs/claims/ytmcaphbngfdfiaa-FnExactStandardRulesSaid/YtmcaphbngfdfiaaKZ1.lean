/- Texts put together: WSizeS. -/
import Derived.Test.YtmcaphbngfdfiaaKG

/- Walks: the size of an expression in the reference. -/
namespace Go.Proofs.Ytmcaphbngfdfiaa
open Go.RowKit Plain

end Go.Proofs.Ytmcaphbngfdfiaa
