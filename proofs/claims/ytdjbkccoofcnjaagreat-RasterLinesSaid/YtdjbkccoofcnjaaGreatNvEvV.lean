import Derived.Test.YtdjbkccoofcnjaaGreatNvEvU
set_option linter.all false
set_option maxRecDepth 100000
section
namespace Go.Nv
open Go.Proofs Nw Go.RowKit
theorem tri_ok:evF ev0 (evC ev0 1000) 48 [triD] =some [i64 0] :=by kernel_rfl
end Go.Nv
end
