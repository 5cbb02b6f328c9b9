import Derived.Test.YtlmmifgminkdkaaGreatNwC231
set_option linter.all false
set_option maxRecDepth 100000
section
namespace Go.Nv
open Go.Proofs Go.Proofs.YtlmmifgminkdkaaGreat Go.RowKit
theorem qBM:Rows.workspaceUndoesUptoRow.wf (Rows.OpenSpec.upto Rows.workspaceUndoesSpec)=true:=by kernel_rfl
theorem qDB:mapsRowed Tryz.prog=true:=by kernel_rfl
theorem qDs:Tryz.f4.params.all (Tryz.prog.readableRec ·)=true:=by kernel_rfl
theorem qCW:namedTie Tryz.prog Rows.workspaceUndoesUptoRow.named (Rows.OpenSpec.upto Rows.workspaceUndoesSpec).bare.vars=true:=by kernel_rfl
theorem qCx:(Tryz.prog.stops== [])=true:=by kernel_rfl
theorem qBb:(Tryz.prog.stopKnobs== [])=true:=by kernel_rfl
theorem qCv:(Rows.workspaceUndoesUptoRow.inPlace==Tryz.prog.inPlace 4)=true:=by kernel_rfl
theorem qBq:(Rows.workspaceUndoesUptoRow.unfollowed==Tryz.prog.unfollowed 4)=true:=by kernel_rfl
theorem qC3:(Rows.workspaceUndoesUptoRow.recurses==Tryz.prog.recurses 4)=true:=by kernel_rfl
theorem qxl:(Rows.workspaceUndoesUptoRow.named==Tryz.prog.varsNamed 4)=true:=by kernel_rfl
theorem qzD:(Rows.workspaceUndoesUptoRow.plainKeys==Tryz.prog.plainKeys)=true:=by kernel_rfl
theorem qyO:Tryz.prog.stopsHeard=true:=by kernel_rfl
theorem qxB:Tryz.prog.mayEnter=true:=by kernel_rfl
theorem qzl:(Rows.workspaceUndoesUptoRow.lifted==Tryz.prog.liftsFinal)=true:=by kernel_rfl
end Go.Nv
end
