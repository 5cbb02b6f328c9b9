import Derived.Test.YtdjbkccoofcnjaaGreatNvC104
set_option linter.all false
set_option linter.unusedVariables false
set_option linter.unusedSimpArgs false
section
namespace Go.Nv
open Go.Proofs Go.Proofs.YtdjbkccoofcnjaaGreat Go.RowKit
set_option maxRecDepth 100000
theorem and2p {a b : Bool} (h : a = true) (k : b = true) : (a && b) = true := by rw [h, k]; rfl
theorem pfacts : joinedFacts Tryz.prog 4 Tryz.f4 Rows.rasterPixelsSpec Rows.rasterPixelsRow = true := by
  unfold joinedFacts
  exact (and2p (and2p (and2p (and2p (and2p (and2p (and2p (and2p (and2p (and2p (and2p (and2p (and2p (and2p (and2p (and2p (and2p (and2p (and2p (and2p (and2p (and2p (and2p (and2p (and2p (and2p (and2p (and2p (and2p (and2p (and2p pf1 tryz_laid) pf2) pf3) pf4) (by kernel_rfl)) pf5) (by kernel_rfl)) pf6) pf7) pf8) pf9) pf10) (by kernel_rfl)) (by kernel_rfl)) (by kernel_rfl)) (by kernel_rfl)) (by kernel_rfl)) (by kernel_rfl)) (by kernel_rfl)) (by kernel_rfl)) (by kernel_rfl)) pf11) (by kernel_rfl)) pf12) pf13) pf14) (by kernel_rfl)) (by kernel_rfl)) (by kernel_rfl)) (by kernel_rfl)) (by kernel_rfl))
theorem pname : Tryz.prog.funcNamed Rows.rasterPixelsRow.func = some 4 := by kernel_rfl
theorem pinst : Tryz.f4.isInstance Tryz.prog Rows.rasterPixelsRow.origin Rows.rasterPixelsRow.targs := of_decide_eq_true (by kernel_rfl)
theorem pwrap : Tryz.f4.isWrapper Tryz.prog Rows.rasterPixelsRow.wrapper Rows.rasterPixelsRow.mainSum := by unfold Func.isWrapper; first | (rw [if_pos (by decide +kernel)]; kernel_rfl) | (rw [if_neg (by decide +kernel)]; exact ⟨rfl, rfl⟩)
theorem pixels_said (hA : Fun Tryz.prog 12 [] [.v (.bool true)]) : Rows.RasterPixelsSaid :=
  OpenClaim.holds_of_wide 4 Tryz.f4 rfl rfl rfl rfl rfl rfl rfl ⟨rfl, rfl, rfl, rfl, rfl⟩ rfl rfl rfl rfl rfl pname Tryz.func4 pfacts pinst pwrap
    (fun os started H enc _ => pixels_lifted hA os started H enc)
end Go.Nv
end
