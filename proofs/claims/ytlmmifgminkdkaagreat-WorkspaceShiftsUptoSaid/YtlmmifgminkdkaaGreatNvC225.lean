import Derived.Test.YtlmmifgminkdkaaGreatNvC217
import Derived.Test.YtlmmifgminkdkaaGreatNvG51
set_option linter.all false
set_option maxRecDepth 100000
section
namespace Go.Nv
theorem shifts:Go.Proofs.YtlmmifgminkdkaaGreat.Rows.WorkspaceShiftsUptoSaid:=qkP qqQ
end Go.Nv
end
