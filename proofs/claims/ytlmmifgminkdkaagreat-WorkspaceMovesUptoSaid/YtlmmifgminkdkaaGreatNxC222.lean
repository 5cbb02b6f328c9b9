import Derived.Test.YtlmmifgminkdkaaGreatNxC221
set_option linter.all false
set_option maxRecDepth 100000
section
namespace Go.Nv
open Go.Proofs Go.Proofs.YtlmmifgminkdkaaGreat Go.RowKit
theorem qeU{a b:Bool}(h:a=true)(k:b=true):(a&&b)=true:=by rw [h,k];rfl
theorem qv8:joinedFacts Tryz.prog 5 Tryz.f5 (Rows.OpenSpec.upto Rows.workspaceMovesSpec).bare Rows.workspaceMovesUptoRow=true:=by
 unfold joinedFacts
 exact (qeU (qeU (qeU (qeU (qeU (qeU (qeU (qeU (qeU (qeU (qeU (qeU (qeU (qeU (qeU (qeU (qeU (qeU (qeU (qeU (qeU (qeU (qeU (qeU (qeU (qeU (qeU (qeU (qeU (qeU (qeU qDh qk8) qDO) qEC) qDz) (by kernel_rfl)) qCW) (by kernel_rfl)) qCf) qDg) qEe) qBX) qyG) (by kernel_rfl)) (by kernel_rfl)) (by kernel_rfl)) (by kernel_rfl)) (by kernel_rfl)) (by kernel_rfl)) (by kernel_rfl)) (by kernel_rfl)) (by kernel_rfl)) qzS) (by kernel_rfl)) qz3) qzA) qzm) (by kernel_rfl)) (by kernel_rfl)) (by kernel_rfl)) (by kernel_rfl)) (by kernel_rfl))
theorem qz4:Tryz.prog.funcNamed Rows.workspaceMovesUptoRow.func=some 5:=by kernel_rfl
theorem qze:Tryz.f5.isInstance Tryz.prog Rows.workspaceMovesUptoRow.origin Rows.workspaceMovesUptoRow.targs:=of_decide_eq_true (by kernel_rfl)
theorem qy2:Tryz.f5.isWrapper Tryz.prog Rows.workspaceMovesUptoRow.wrapper Rows.workspaceMovesUptoRow.mainSum:=by unfold Func.isWrapper;first|(rw [if_pos (by decide+kernel)];kernel_rfl)|(rw [if_neg (by decide+kernel)];exact ⟨rfl,rfl⟩)
theorem qlD(hA:Fun Tryz.prog 12 [] [.v (.bool true)]):Rows.WorkspaceMovesUptoSaid:=
 OpenClaim.holds_of_cond 5 Tryz.f5 rfl rfl rfl rfl rfl rfl rfl ⟨rfl,rfl,rfl,rfl,rfl⟩ rfl rfl rfl rfl rfl qz4 Tryz.func5 qv8 qze qy2
  (fun os started H enc _ F=>qja hA os started H enc F)
end Go.Nv
end
