/- The statement RasterRefines holds of the given program: for every polygon, box and numbers of columns and rows, the law function returns true and never panics. Conditions: none beyond those of the given statement Rows.RasterRefinesSaid. -/
import Derived.Test.YtdjbkccoofcnjaaGreatNvC76
import Derived.Test.YtdjbkccoofcnjaaGreatRows
namespace Go.Proofs.YtdjbkccoofcnjaaGreat
theorem refines : Rows.RasterRefinesSaid := Go.Nv.refines
end Go.Proofs.YtdjbkccoofcnjaaGreat
