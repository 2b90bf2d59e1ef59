/- Texts put together: WSort2a, WSort2b. -/
import Derived.Test.YtmcaphbngfdfiaaKSA

/- Walks: sorting in place: the merge of two parts, the left one of one element. Printed by gen_sort.py. -/
namespace Go.Proofs.Ytmcaphbngfdfiaa
open Go.RowKit Plain PSort
open Go.Sort (PermIn SortedIn SWO swp swp_permIn permIn_refl permIn_trans permIn_mono size_swp HoldsK grow)

section
variable {w0 : World} {blk n' off : Nat} [Inhabited (TmS w0 blk n')] {d0 : Array (TmS w0 blk n')}

end
end Go.Proofs.Ytmcaphbngfdfiaa

/- Walks: sorting in place: the merge of two parts, the right one of one element. Printed by gen_sort.py. -/
namespace Go.Proofs.Ytmcaphbngfdfiaa
open Go.RowKit Plain PSort
open Go.Sort (PermIn SortedIn SWO swp swp_permIn permIn_refl permIn_trans permIn_mono size_swp HoldsK grow)

section
variable {w0 : World} {blk n' off : Nat} [Inhabited (TmS w0 blk n')] {d0 : Array (TmS w0 blk n')}

end
end Go.Proofs.Ytmcaphbngfdfiaa
