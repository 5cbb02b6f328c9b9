/- The statement RasterTouches holds of the given program: for every segment, box and numbers of columns and rows, the law function returns true and never panics. Conditions: none beyond those of the given statement Rows.RasterTouchesSaid. -/
import Derived.Test.YtdjbkccoofcnjaaGreatNvEvF
import Derived.Test.YtdjbkccoofcnjaaGreatRows
namespace Go.Proofs.YtdjbkccoofcnjaaGreat
theorem touches : Rows.RasterTouchesSaid := Go.Nv.touches
end Go.Proofs.YtdjbkccoofcnjaaGreat
