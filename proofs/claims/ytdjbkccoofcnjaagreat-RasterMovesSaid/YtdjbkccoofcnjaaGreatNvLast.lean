/- The statement RasterMoves holds of the given program: for every polygon, box, numbers of columns and rows and vector, the law function returns true and never panics. Conditions: none beyond those of the given statement Rows.RasterMovesSaid. -/
import Derived.Test.YtdjbkccoofcnjaaGreatNvC127
import Derived.Test.YtdjbkccoofcnjaaGreatRows
namespace Go.Proofs.YtdjbkccoofcnjaaGreat
theorem moves : Rows.RasterMovesSaid := Go.Nv.moves
end Go.Proofs.YtdjbkccoofcnjaaGreat
