/- The statement RasterPixels holds of the given program: for every segment, box, numbers of columns and rows and index, the law function returns true and never panics. Conditions: none beyond those of the given statement Rows.RasterPixelsSaid. -/
import Derived.Test.YtdjbkccoofcnjaaGreatNvD8
import Derived.Test.YtdjbkccoofcnjaaGreatRows
namespace Go.Proofs.YtdjbkccoofcnjaaGreat
theorem pixels : Rows.RasterPixelsSaid := Go.Nv.pixels
end Go.Proofs.YtdjbkccoofcnjaaGreat
