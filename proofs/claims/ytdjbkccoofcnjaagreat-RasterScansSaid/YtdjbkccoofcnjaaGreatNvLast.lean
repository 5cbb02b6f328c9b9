/- The scan law of raster holds for every input: a point lies in the intervals of its line where an odd number of edges crosses to its right. -/
import Derived.Test.YtdjbkccoofcnjaaGreatNvC143
import Derived.Test.YtdjbkccoofcnjaaGreatRows
namespace Go.Proofs.YtdjbkccoofcnjaaGreat
theorem scans : Rows.RasterScansSaid := Go.Nv.scans
end Go.Proofs.YtdjbkccoofcnjaaGreat
