/- The law function RasterLines (Lines and Print return the results of the reference implementation) answers true for all inputs and leaves them as they were: no conditions. -/
import Derived.Test.YtdjbkccoofcnjaaGreatNvC177
import Derived.Test.YtdjbkccoofcnjaaGreatRows
namespace Go.Proofs.YtdjbkccoofcnjaaGreat
theorem lines : Rows.RasterLinesSaid := Go.Nv.lines
end Go.Proofs.YtdjbkccoofcnjaaGreat
