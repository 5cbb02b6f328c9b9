import Derived.Test.YtlmmifgminkdkaaGreatNwC233
import Derived.Test.YtlmmifgminkdkaaGreatNwG51
set_option linter.all false
set_option maxRecDepth 100000
section
namespace Go.Nv
theorem undoes:Go.Proofs.YtlmmifgminkdkaaGreat.Rows.WorkspaceUndoesUptoSaid:=qj6 quP
end Go.Nv
end
