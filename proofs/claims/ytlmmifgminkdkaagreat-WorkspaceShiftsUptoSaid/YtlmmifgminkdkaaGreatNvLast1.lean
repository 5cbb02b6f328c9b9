/- WorkspaceShifts: shifting an obstacle back leads back, and shifts one after the other are added, for all inputs of the sizes that the statement bounds. -/
import Derived.Test.YtlmmifgminkdkaaGreatNvC225
import Derived.Test.YtlmmifgminkdkaaGreatRows
namespace Go.Proofs.YtlmmifgminkdkaaGreat
theorem shifts : Rows.WorkspaceShiftsUptoSaid := Go.Nv.shifts
end Go.Proofs.YtlmmifgminkdkaaGreat
