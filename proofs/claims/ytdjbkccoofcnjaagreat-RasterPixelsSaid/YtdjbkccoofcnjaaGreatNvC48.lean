import Derived.Test.YtdjbkccoofcnjaaGreatNvC47
set_option linter.all false
set_option linter.unusedVariables false
set_option linter.unusedSimpArgs false
section
namespace Go.Nv
open Go.Proofs Go.Proofs.YtdjbkccoofcnjaaGreat Go.RowKit
set_option maxRecDepth 100000
end Go.Nv
end
