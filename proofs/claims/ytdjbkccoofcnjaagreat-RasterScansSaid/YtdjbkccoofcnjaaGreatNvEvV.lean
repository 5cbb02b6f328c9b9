import Derived.Test.YtdjbkccoofcnjaaGreatNvEvU
set_option linter.all false
set_option linter.unusedVariables false
set_option linter.unusedSimpArgs false
section
namespace Go.Nv
open Go.Proofs Nw Go.RowKit
theorem tri_ok : evF ev0 (evC ev0 1000) 48 [triD] = some [i64 0] := by kernel_rfl
end Go.Nv
end
