import Derived.Test.YtlmmifgminkdkaaGreatNwC232
set_option linter.all false
set_option maxRecDepth 100000
section
namespace Go.Nv
open Go.Proofs Go.Proofs.YtlmmifgminkdkaaGreat Go.RowKit
theorem qeO{a b:Bool}(h:a=true)(k:b=true):(a&&b)=true:=by rw [h,k];rfl
theorem qvV:joinedFacts Tryz.prog 4 Tryz.f4 (Rows.OpenSpec.upto Rows.workspaceUndoesSpec).bare Rows.workspaceUndoesUptoRow=true:=by
 unfold joinedFacts
 exact (qeO (qeO (qeO (qeO (qeO (qeO (qeO (qeO (qeO (qeO (qeO (qeO (qeO (qeO (qeO (qeO (qeO (qeO (qeO (qeO (qeO (qeO (qeO (qeO (qeO (qeO (qeO (qeO (qeO (qeO (qeO qBM qkB) qDB) qDs) qCW) (by kernel_rfl)) qCx) (by kernel_rfl)) qBb) qCv) qBq) qC3) qxl) (by kernel_rfl)) (by kernel_rfl)) (by kernel_rfl)) (by kernel_rfl)) (by kernel_rfl)) (by kernel_rfl)) (by kernel_rfl)) (by kernel_rfl)) (by kernel_rfl)) qzD) (by kernel_rfl)) qyO) qxB) qzl) (by kernel_rfl)) (by kernel_rfl)) (by kernel_rfl)) (by kernel_rfl)) (by kernel_rfl))
theorem qz2:Tryz.prog.funcNamed Rows.workspaceUndoesUptoRow.func=some 4:=by kernel_rfl
theorem qzE:Tryz.f4.isInstance Tryz.prog Rows.workspaceUndoesUptoRow.origin Rows.workspaceUndoesUptoRow.targs:=of_decide_eq_true (by kernel_rfl)
theorem qxW:Tryz.f4.isWrapper Tryz.prog Rows.workspaceUndoesUptoRow.wrapper Rows.workspaceUndoesUptoRow.mainSum:=by unfold Func.isWrapper;first|(rw [if_pos (by decide+kernel)];kernel_rfl)|(rw [if_neg (by decide+kernel)];exact ⟨rfl,rfl⟩)
theorem qj6(hA:Fun Tryz.prog 12 [] [.v (.bool true)]):Rows.WorkspaceUndoesUptoSaid:=
 OpenClaim.holds_of_cond 4 Tryz.f4 rfl rfl rfl rfl rfl rfl rfl ⟨rfl,rfl,rfl,rfl,rfl⟩ rfl rfl rfl rfl rfl qz2 Tryz.func4 qvV qzE qxW
  (fun os started H enc _ F=>qh0 hA os started H enc F)
end Go.Nv
end
