/- WorkspaceMoves: shifting all obstacles leads to the translated obstacles, for all inputs of the sizes that the statement bounds. -/
import Derived.Test.YtlmmifgminkdkaaGreatNxC226
import Derived.Test.YtlmmifgminkdkaaGreatRows
namespace Go.Proofs.YtlmmifgminkdkaaGreat
theorem moves : Rows.WorkspaceMovesUptoSaid := Go.Nv.moves
end Go.Proofs.YtlmmifgminkdkaaGreat
