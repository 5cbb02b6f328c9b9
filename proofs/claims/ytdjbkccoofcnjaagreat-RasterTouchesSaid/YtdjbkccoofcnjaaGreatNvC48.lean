import Derived.Test.YtdjbkccoofcnjaaGreatNvC47
set_option linter.all false
set_option linter.unusedVariables false
set_option linter.unusedSimpArgs false
section
namespace Go.Nv
open Go.Proofs Go.Proofs.YtdjbkccoofcnjaaGreat Go.RowKit
set_option maxRecDepth 100000
theorem and2 {a b : Bool} (h : a = true) (k : b = true) : (a && b) = true := by rw [h, k]; rfl
theorem jfacts : joinedFacts Tryz.prog 5 Tryz.f5 Rows.rasterTouchesSpec Rows.rasterTouchesRow = true := by
  unfold joinedFacts
  exact (and2 (and2 (and2 (and2 (and2 (and2 (and2 (and2 (and2 (and2 (and2 (and2 (and2 (and2 (and2 (and2 (and2 (and2 (and2 (and2 (and2 (and2 (and2 (and2 (and2 (and2 (and2 (and2 (and2 (and2 (and2 jf1 tryz_laid) jf2) jf3) jf4) (by kernel_rfl)) jf5) (by kernel_rfl)) jf6) jf7) jf8) jf9) jf10) (by kernel_rfl)) (by kernel_rfl)) (by kernel_rfl)) (by kernel_rfl)) (by kernel_rfl)) (by kernel_rfl)) (by kernel_rfl)) (by kernel_rfl)) (by kernel_rfl)) jf11) (by kernel_rfl)) jf12) jf13) jf14) (by kernel_rfl)) (by kernel_rfl)) (by kernel_rfl)) (by kernel_rfl)) (by kernel_rfl))
theorem jname : Tryz.prog.funcNamed Rows.rasterTouchesRow.func = some 5 := by kernel_rfl
theorem jinst : Tryz.f5.isInstance Tryz.prog Rows.rasterTouchesRow.origin Rows.rasterTouchesRow.targs := of_decide_eq_true (by kernel_rfl)
theorem jwrap : Tryz.f5.isWrapper Tryz.prog Rows.rasterTouchesRow.wrapper Rows.rasterTouchesRow.mainSum := by unfold Func.isWrapper; first | (rw [if_pos (by decide +kernel)]; kernel_rfl) | (rw [if_neg (by decide +kernel)]; exact ⟨rfl, rfl⟩)
theorem touches_said (hA : Fun Tryz.prog 12 [] [.v (.bool true)]) : Rows.RasterTouchesSaid :=
  OpenClaim.holds_of_wide 5 Tryz.f5 rfl rfl rfl rfl rfl rfl rfl ⟨rfl, rfl, rfl, rfl, rfl⟩ rfl rfl rfl rfl rfl jname Tryz.func5 jfacts jinst jwrap
    (fun os started H enc _ => touches_lifted hA os started H enc)
end Go.Nv
end
