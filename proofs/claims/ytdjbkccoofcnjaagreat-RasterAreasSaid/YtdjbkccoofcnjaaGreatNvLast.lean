/- The statement RasterAreas holds of the given program: for every polygon, box and numbers of columns and rows, the law function returns true and never panics. Conditions: none beyond those of the given statement Rows.RasterAreasSaid. -/
import Derived.Test.YtdjbkccoofcnjaaGreatNvC120
import Derived.Test.YtdjbkccoofcnjaaGreatRows
namespace Go.Proofs.YtdjbkccoofcnjaaGreat
theorem areas : Rows.RasterAreasSaid := Go.Nv.areas
end Go.Proofs.YtdjbkccoofcnjaaGreat
