import Derived.Test.YtdjbkccoofcnjaaGreatNvEvF
import Derived.Test.YtdjbkccoofcnjaaGreatNvC105
set_option linter.all false
set_option linter.unusedVariables false
set_option linter.unusedSimpArgs false
section
namespace Go.Nv
open Go.Proofs Go.Proofs.YtdjbkccoofcnjaaGreat
theorem pixels : Rows.RasterPixelsSaid := pixels_said awake_f
end Go.Nv
end
