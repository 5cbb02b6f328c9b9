import Derived.Test.YtlmmifgminkdkaaGreatNvC216
set_option linter.all false
set_option maxRecDepth 100000
section
namespace Go.Nv
open Go.Proofs Go.Proofs.YtlmmifgminkdkaaGreat Go.RowKit
theorem qfb{a b:Bool}(h:a=true)(k:b=true):(a&&b)=true:=by rw [h,k];rfl
theorem qxH:joinedFacts Tryz.prog 6 Tryz.f6 (Rows.OpenSpec.upto Rows.workspaceShiftsSpec).bare Rows.workspaceShiftsUptoRow=true:=by
 unfold joinedFacts
 exact (qfb (qfb (qfb (qfb (qfb (qfb (qfb (qfb (qfb (qfb (qfb (qfb (qfb (qfb (qfb (qfb (qfb (qfb (qfb (qfb (qfb (qfb (qfb (qfb (qfb (qfb (qfb (qfb (qfb (qfb (qfb qCJ qfG) qEI) qCH) qE4) (by kernel_rfl)) qDe) (by kernel_rfl)) qCw) qCo) qC1) qC5) qy1) (by kernel_rfl)) (by kernel_rfl)) (by kernel_rfl)) (by kernel_rfl)) (by kernel_rfl)) (by kernel_rfl)) (by kernel_rfl)) (by kernel_rfl)) (by kernel_rfl)) qBx) (by kernel_rfl)) qyB) qAC) qAM) (by kernel_rfl)) (by kernel_rfl)) (by kernel_rfl)) (by kernel_rfl)) (by kernel_rfl))
theorem qy3:Tryz.prog.funcNamed Rows.workspaceShiftsUptoRow.func=some 6:=by kernel_rfl
theorem qAI:Tryz.f6.isInstance Tryz.prog Rows.workspaceShiftsUptoRow.origin Rows.workspaceShiftsUptoRow.targs:=of_decide_eq_true (by kernel_rfl)
theorem qyN:Tryz.f6.isWrapper Tryz.prog Rows.workspaceShiftsUptoRow.wrapper Rows.workspaceShiftsUptoRow.mainSum:=by unfold Func.isWrapper;first|(rw [if_pos (by decide+kernel)];kernel_rfl)|(rw [if_neg (by decide+kernel)];exact ⟨rfl,rfl⟩)
theorem qkP(hA:Fun Tryz.prog 12 [] [.v (.bool true)]):Rows.WorkspaceShiftsUptoSaid:=
 OpenClaim.holds_of_cond 6 Tryz.f6 rfl rfl rfl rfl rfl rfl rfl ⟨rfl,rfl,rfl,rfl,rfl⟩ rfl rfl rfl rfl rfl qy3 Tryz.func6 qxH qAI qyN
  (fun os started H enc _ F=>qjk hA os started H enc F)
end Go.Nv
end
