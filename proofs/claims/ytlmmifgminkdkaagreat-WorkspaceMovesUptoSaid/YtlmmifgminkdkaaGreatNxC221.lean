import Derived.Test.YtlmmifgminkdkaaGreatNxC220
set_option linter.all false
set_option maxRecDepth 100000
section
namespace Go.Nv
open Go.Proofs Go.Proofs.YtlmmifgminkdkaaGreat Go.RowKit
theorem qDh:Rows.workspaceMovesUptoRow.wf (Rows.OpenSpec.upto Rows.workspaceMovesSpec)=true:=by kernel_rfl
theorem qDO:mapsRowed Tryz.prog=true:=by kernel_rfl
theorem qEC:Tryz.f5.params.all (Tryz.prog.readableRec ·)=true:=by kernel_rfl
theorem qDz:namedTie Tryz.prog Rows.workspaceMovesUptoRow.named (Rows.OpenSpec.upto Rows.workspaceMovesSpec).bare.vars=true:=by kernel_rfl
theorem qCW:(Tryz.prog.stops== [])=true:=by kernel_rfl
theorem qCf:(Tryz.prog.stopKnobs== [])=true:=by kernel_rfl
theorem qDg:(Rows.workspaceMovesUptoRow.inPlace==Tryz.prog.inPlace 5)=true:=by kernel_rfl
theorem qEe:(Rows.workspaceMovesUptoRow.unfollowed==Tryz.prog.unfollowed 5)=true:=by kernel_rfl
theorem qBX:(Rows.workspaceMovesUptoRow.recurses==Tryz.prog.recurses 5)=true:=by kernel_rfl
theorem qyG:(Rows.workspaceMovesUptoRow.named==Tryz.prog.varsNamed 5)=true:=by kernel_rfl
theorem qzS:(Rows.workspaceMovesUptoRow.plainKeys==Tryz.prog.plainKeys)=true:=by kernel_rfl
theorem qz3:Tryz.prog.stopsHeard=true:=by kernel_rfl
theorem qzA:Tryz.prog.mayEnter=true:=by kernel_rfl
theorem qzm:(Rows.workspaceMovesUptoRow.lifted==Tryz.prog.liftsFinal)=true:=by kernel_rfl
end Go.Nv
end
