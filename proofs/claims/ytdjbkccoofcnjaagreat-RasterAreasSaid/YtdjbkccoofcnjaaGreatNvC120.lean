import Derived.Test.YtdjbkccoofcnjaaGreatNvC119
import Derived.Test.YtdjbkccoofcnjaaGreatNvEvG
set_option linter.all false
set_option linter.unusedVariables false
set_option linter.unusedSimpArgs false
section
namespace Go.Nv
open Go.Proofs Go.Proofs.YtdjbkccoofcnjaaGreat Go.RowKit
set_option maxRecDepth 100000
theorem and7 {a b : Bool} (h : a = true) (k : b = true) : (a && b) = true := by rw [h, k]; rfl
theorem kfacts7 : joinedFacts Tryz.prog 7 Tryz.f7 Rows.rasterAreasSpec Rows.rasterAreasRow = true := by
  unfold joinedFacts
  exact (and7 (and7 (and7 (and7 (and7 (and7 (and7 (and7 (and7 (and7 (and7 (and7 (and7 (and7 (and7 (and7 (and7 (and7 (and7 (and7 (and7 (and7 (and7 (and7 (and7 (and7 (and7 (and7 (and7 (and7 (and7 kf7_1 tryz_laid) kf7_2) kf7_3) kf7_4) (by kernel_rfl)) kf7_5) (by kernel_rfl)) kf7_6) kf7_7) kf7_8) kf7_9) kf7_10) (by kernel_rfl)) (by kernel_rfl)) (by kernel_rfl)) (by kernel_rfl)) (by kernel_rfl)) (by kernel_rfl)) (by kernel_rfl)) (by kernel_rfl)) (by kernel_rfl)) kf7_11) (by kernel_rfl)) kf7_12) kf7_13) kf7_14) (by kernel_rfl)) (by kernel_rfl)) (by kernel_rfl)) (by kernel_rfl)) (by kernel_rfl))
theorem kname7 : Tryz.prog.funcNamed Rows.rasterAreasRow.func = some 7 := by kernel_rfl
theorem kinst7 : Tryz.f7.isInstance Tryz.prog Rows.rasterAreasRow.origin Rows.rasterAreasRow.targs := of_decide_eq_true (by kernel_rfl)
theorem kwrap7 : Tryz.f7.isWrapper Tryz.prog Rows.rasterAreasRow.wrapper Rows.rasterAreasRow.mainSum := by unfold Func.isWrapper; first | (rw [if_pos (by decide +kernel)]; kernel_rfl) | (rw [if_neg (by decide +kernel)]; exact ⟨rfl, rfl⟩)
theorem areas : Rows.RasterAreasSaid :=
  OpenClaim.holds_of_wide 7 Tryz.f7 rfl rfl rfl rfl rfl rfl rfl ⟨rfl, rfl, rfl, rfl, rfl⟩ rfl rfl rfl rfl rfl kname7 Tryz.func7 kfacts7 kinst7 kwrap7
    (fun os started H enc _ => areas_lifted awake_h os started H enc)
end Go.Nv
end
