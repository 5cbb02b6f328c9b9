import Derived.Test.YtdjbkccoofcnjaaGreatNvC126
import Derived.Test.YtdjbkccoofcnjaaGreatNvEvG
set_option linter.all false
set_option linter.unusedVariables false
set_option linter.unusedSimpArgs false
section
namespace Go.Nv
open Go.Proofs Go.Proofs.YtdjbkccoofcnjaaGreat Go.RowKit
set_option maxRecDepth 100000
theorem and9 {a b : Bool} (h : a = true) (k : b = true) : (a && b) = true := by rw [h, k]; rfl
theorem kfacts9 : joinedFacts Tryz.prog 9 Tryz.f9 Rows.rasterMovesSpec Rows.rasterMovesRow = true := by
  unfold joinedFacts
  exact (and9 (and9 (and9 (and9 (and9 (and9 (and9 (and9 (and9 (and9 (and9 (and9 (and9 (and9 (and9 (and9 (and9 (and9 (and9 (and9 (and9 (and9 (and9 (and9 (and9 (and9 (and9 (and9 (and9 (and9 (and9 kf9_1 tryz_laid) kf9_2) kf9_3) kf9_4) (by kernel_rfl)) kf9_5) (by kernel_rfl)) kf9_6) kf9_7) kf9_8) kf9_9) kf9_10) (by kernel_rfl)) (by kernel_rfl)) (by kernel_rfl)) (by kernel_rfl)) (by kernel_rfl)) (by kernel_rfl)) (by kernel_rfl)) (by kernel_rfl)) (by kernel_rfl)) kf9_11) (by kernel_rfl)) kf9_12) kf9_13) kf9_14) (by kernel_rfl)) (by kernel_rfl)) (by kernel_rfl)) (by kernel_rfl)) (by kernel_rfl))
theorem kname9 : Tryz.prog.funcNamed Rows.rasterMovesRow.func = some 9 := by kernel_rfl
theorem kinst9 : Tryz.f9.isInstance Tryz.prog Rows.rasterMovesRow.origin Rows.rasterMovesRow.targs := of_decide_eq_true (by kernel_rfl)
theorem kwrap9 : Tryz.f9.isWrapper Tryz.prog Rows.rasterMovesRow.wrapper Rows.rasterMovesRow.mainSum := by unfold Func.isWrapper; first | (rw [if_pos (by decide +kernel)]; kernel_rfl) | (rw [if_neg (by decide +kernel)]; exact ⟨rfl, rfl⟩)
theorem moves : Rows.RasterMovesSaid :=
  OpenClaim.holds_of_wide 9 Tryz.f9 rfl rfl rfl rfl rfl rfl rfl ⟨rfl, rfl, rfl, rfl, rfl⟩ rfl rfl rfl rfl rfl kname9 Tryz.func9 kfacts9 kinst9 kwrap9
    (fun os started H enc _ => moves_lifted awake_h os started H enc)
end Go.Nv
end
