import Derived.Test.YtdjbkccoofcnjaaGreatNvC75
import Derived.Test.YtdjbkccoofcnjaaGreatNvEvZ
import Derived.Test.YtdjbkccoofcnjaaGreatNvE1
set_option linter.all false
set_option linter.unusedVariables false
set_option linter.unusedSimpArgs false
section
namespace Go.Nv
open Go.Proofs Go.Proofs.YtdjbkccoofcnjaaGreat Go.RowKit
set_option maxRecDepth 100000
theorem awake_g : Fun Tryz.prog 12 [] [.v (.bool true)] := awake_c (sl3_ok (E := ev0) tOk) (sl3_ok (E := ev1) tOk) (sl3_ok (E := ev2) tOk)
theorem and3 {a b : Bool} (h : a = true) (k : b = true) : (a && b) = true := by rw [h, k]; rfl
theorem kfacts3 : joinedFacts Tryz.prog 3 Tryz.f3 Rows.rasterRefinesSpec Rows.rasterRefinesRow = true := by
  unfold joinedFacts
  exact (and3 (and3 (and3 (and3 (and3 (and3 (and3 (and3 (and3 (and3 (and3 (and3 (and3 (and3 (and3 (and3 (and3 (and3 (and3 (and3 (and3 (and3 (and3 (and3 (and3 (and3 (and3 (and3 (and3 (and3 (and3 kf3_1 tryz_laid) kf3_2) kf3_3) kf3_4) (by kernel_rfl)) kf3_5) (by kernel_rfl)) kf3_6) kf3_7) kf3_8) kf3_9) kf3_10) (by kernel_rfl)) (by kernel_rfl)) (by kernel_rfl)) (by kernel_rfl)) (by kernel_rfl)) (by kernel_rfl)) (by kernel_rfl)) (by kernel_rfl)) (by kernel_rfl)) kf3_11) (by kernel_rfl)) kf3_12) kf3_13) kf3_14) (by kernel_rfl)) (by kernel_rfl)) (by kernel_rfl)) (by kernel_rfl)) (by kernel_rfl))
theorem kname3 : Tryz.prog.funcNamed Rows.rasterRefinesRow.func = some 3 := by kernel_rfl
theorem kinst3 : Tryz.f3.isInstance Tryz.prog Rows.rasterRefinesRow.origin Rows.rasterRefinesRow.targs := of_decide_eq_true (by kernel_rfl)
theorem kwrap3 : Tryz.f3.isWrapper Tryz.prog Rows.rasterRefinesRow.wrapper Rows.rasterRefinesRow.mainSum := by unfold Func.isWrapper; first | (rw [if_pos (by decide +kernel)]; kernel_rfl) | (rw [if_neg (by decide +kernel)]; exact ⟨rfl, rfl⟩)
theorem refines : Rows.RasterRefinesSaid :=
  OpenClaim.holds_of_wide 3 Tryz.f3 rfl rfl rfl rfl rfl rfl rfl ⟨rfl, rfl, rfl, rfl, rfl⟩ rfl rfl rfl rfl rfl kname3 Tryz.func3 kfacts3 kinst3 kwrap3
    (fun os started H enc _ => refines_lifted awake_g os started H enc)
end Go.Nv
end
