import Derived.Test.YtlmmifgminkdkaaGreatNvC215
set_option linter.all false
set_option maxRecDepth 100000
section
namespace Go.Nv
open Go.Proofs Go.Proofs.YtlmmifgminkdkaaGreat Go.RowKit
theorem qCJ:Rows.workspaceShiftsUptoRow.wf (Rows.OpenSpec.upto Rows.workspaceShiftsSpec)=true:=by kernel_rfl
theorem qEI:mapsRowed Tryz.prog=true:=by kernel_rfl
theorem qCH:Tryz.f6.params.all (Tryz.prog.readableRec ·)=true:=by kernel_rfl
theorem qE4:namedTie Tryz.prog Rows.workspaceShiftsUptoRow.named (Rows.OpenSpec.upto Rows.workspaceShiftsSpec).bare.vars=true:=by kernel_rfl
theorem qDe:(Tryz.prog.stops== [])=true:=by kernel_rfl
theorem qCw:(Tryz.prog.stopKnobs== [])=true:=by kernel_rfl
theorem qCo:(Rows.workspaceShiftsUptoRow.inPlace==Tryz.prog.inPlace 6)=true:=by kernel_rfl
theorem qC1:(Rows.workspaceShiftsUptoRow.unfollowed==Tryz.prog.unfollowed 6)=true:=by kernel_rfl
theorem qC5:(Rows.workspaceShiftsUptoRow.recurses==Tryz.prog.recurses 6)=true:=by kernel_rfl
theorem qy1:(Rows.workspaceShiftsUptoRow.named==Tryz.prog.varsNamed 6)=true:=by kernel_rfl
theorem qBx:(Rows.workspaceShiftsUptoRow.plainKeys==Tryz.prog.plainKeys)=true:=by kernel_rfl
theorem qyB:Tryz.prog.stopsHeard=true:=by kernel_rfl
theorem qAC:Tryz.prog.mayEnter=true:=by kernel_rfl
theorem qAM:(Rows.workspaceShiftsUptoRow.lifted==Tryz.prog.liftsFinal)=true:=by kernel_rfl
end Go.Nv
end
