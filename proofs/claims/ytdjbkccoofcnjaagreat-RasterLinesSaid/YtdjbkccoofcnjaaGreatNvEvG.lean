import Derived.Test.YtdjbkccoofcnjaaGreatNvEvZ
import Derived.Test.YtdjbkccoofcnjaaGreatNvE1
set_option linter.all false
set_option maxRecDepth 100000
section
namespace Go.Nv
open Go.Proofs
theorem awake_h:Fun Tryz.prog 12 [] [.v (.bool true)] :=awake_c (sl3_ok (E:=ev0) tOk) (sl3_ok (E:=ev1) tOk) (sl3_ok (E:=ev2) tOk)
end Go.Nv
end
