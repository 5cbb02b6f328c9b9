import Derived.Test.YtdjbkccoofcnjaaGreatNvC142
import Derived.Test.YtdjbkccoofcnjaaGreatNvEvG
set_option linter.all false
set_option linter.unusedVariables false
set_option linter.unusedSimpArgs false
section
namespace Go.Nv
open Go.Proofs Go.Proofs.YtdjbkccoofcnjaaGreat Go.RowKit
set_option maxRecDepth 100000
theorem and10 {a b : Bool} (h : a = true) (k : b = true) : (a && b) = true := by rw [h, k]; rfl
theorem kfacts10 : joinedFacts Tryz.prog 10 Tryz.f10 Rows.rasterScansSpec Rows.rasterScansRow = true := by
  unfold joinedFacts
  exact (and10 (and10 (and10 (and10 (and10 (and10 (and10 (and10 (and10 (and10 (and10 (and10 (and10 (and10 (and10 (and10 (and10 (and10 (and10 (and10 (and10 (and10 (and10 (and10 (and10 (and10 (and10 (and10 (and10 (and10 (and10 kf10_1 tryz_laid) kf10_2) kf10_3) kf10_4) (by kernel_rfl)) kf10_5) (by kernel_rfl)) kf10_6) kf10_7) kf10_8) kf10_9) kf10_10) (by kernel_rfl)) (by kernel_rfl)) (by kernel_rfl)) (by kernel_rfl)) (by kernel_rfl)) (by kernel_rfl)) (by kernel_rfl)) (by kernel_rfl)) (by kernel_rfl)) kf10_11) (by kernel_rfl)) kf10_12) kf10_13) kf10_14) (by kernel_rfl)) (by kernel_rfl)) (by kernel_rfl)) (by kernel_rfl)) (by kernel_rfl))
theorem kname10 : Tryz.prog.funcNamed Rows.rasterScansRow.func = some 10 := by kernel_rfl
theorem kinst10 : Tryz.f10.isInstance Tryz.prog Rows.rasterScansRow.origin Rows.rasterScansRow.targs := of_decide_eq_true (by kernel_rfl)
theorem kwrap10 : Tryz.f10.isWrapper Tryz.prog Rows.rasterScansRow.wrapper Rows.rasterScansRow.mainSum := by unfold Func.isWrapper; first | (rw [if_pos (by decide +kernel)]; kernel_rfl) | (rw [if_neg (by decide +kernel)]; exact ⟨rfl, rfl⟩)
theorem scans : Rows.RasterScansSaid :=
  OpenClaim.holds_of_wide 10 Tryz.f10 rfl rfl rfl rfl rfl rfl rfl ⟨rfl, rfl, rfl, rfl, rfl⟩ rfl rfl rfl rfl rfl kname10 Tryz.func10 kfacts10 kinst10 kwrap10
    (fun os started H enc _ => scans_lifted awake_h os started H enc)
end Go.Nv
end
