/- WorkspaceUndoes: removing an inserted obstacle leads back, what is returned without an error is valid, the other obstacles stay in their order, and each is found under its name, for all inputs of the sizes that the statement bounds. -/
import Derived.Test.YtlmmifgminkdkaaGreatNwC234
import Derived.Test.YtlmmifgminkdkaaGreatRows
namespace Go.Proofs.YtlmmifgminkdkaaGreat
theorem undoes : Rows.WorkspaceUndoesUptoSaid := Go.Nv.undoes
end Go.Proofs.YtlmmifgminkdkaaGreat
