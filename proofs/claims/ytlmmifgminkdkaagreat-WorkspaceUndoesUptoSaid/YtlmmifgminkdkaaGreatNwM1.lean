import Derived.Test.YtlmmifgminkdkaaGreatNwD10
set_option linter.all false
set_option maxRecDepth 100000
section
namespace Go.Nv
open Go.Proofs Nw
end Go.Nv
end
