import Derived.Test.YtlmmifgminkdkaaGreatNxC222
import Derived.Test.YtlmmifgminkdkaaGreatNxG51
set_option linter.all false
set_option maxRecDepth 100000
section
namespace Go.Nv
theorem moves:Go.Proofs.YtlmmifgminkdkaaGreat.Rows.WorkspaceMovesUptoSaid:=qlD qxn
end Go.Nv
end
