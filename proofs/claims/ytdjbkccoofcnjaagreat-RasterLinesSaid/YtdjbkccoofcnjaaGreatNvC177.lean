import Derived.Test.YtdjbkccoofcnjaaGreatNvC176
import Derived.Test.YtdjbkccoofcnjaaGreatNvEvG
set_option linter.all false
set_option maxRecDepth 100000
section
namespace Go.Nv
open Go.Proofs Go.Proofs.YtdjbkccoofcnjaaGreat Go.RowKit
theorem and8{a b:Bool}(h:a=true)(k:b=true):(a&&b)=true:=by rw [h,k];rfl
theorem kfacts8:joinedFacts Tryz.prog 8 Tryz.f8 Rows.rasterLinesSpec Rows.rasterLinesRow=true:=by
 unfold joinedFacts
 exact (and8 (and8 (and8 (and8 (and8 (and8 (and8 (and8 (and8 (and8 (and8 (and8 (and8 (and8 (and8 (and8 (and8 (and8 (and8 (and8 (and8 (and8 (and8 (and8 (and8 (and8 (and8 (and8 (and8 (and8 (and8 kf8_1 tryz_laid) kf8_2) kf8_3) kf8_4) (by kernel_rfl)) kf8_5) (by kernel_rfl)) kf8_6) kf8_7) kf8_8) kf8_9) kf8_10) (by kernel_rfl)) (by kernel_rfl)) (by kernel_rfl)) (by kernel_rfl)) (by kernel_rfl)) (by kernel_rfl)) (by kernel_rfl)) (by kernel_rfl)) (by kernel_rfl)) kf8_11) (by kernel_rfl)) kf8_12) kf8_13) kf8_14) (by kernel_rfl)) (by kernel_rfl)) (by kernel_rfl)) (by kernel_rfl)) (by kernel_rfl))
theorem kname8:Tryz.prog.funcNamed Rows.rasterLinesRow.func=some 8:=by kernel_rfl
theorem kinst8:Tryz.f8.isInstance Tryz.prog Rows.rasterLinesRow.origin Rows.rasterLinesRow.targs:=of_decide_eq_true (by kernel_rfl)
theorem kwrap8:Tryz.f8.isWrapper Tryz.prog Rows.rasterLinesRow.wrapper Rows.rasterLinesRow.mainSum:=by unfold Func.isWrapper;first|(rw [if_pos (by decide+kernel)];kernel_rfl)|(rw [if_neg (by decide+kernel)];exact ⟨rfl,rfl⟩)
theorem lines:Rows.RasterLinesSaid:=
 OpenClaim.holds_of_wide 8 Tryz.f8 rfl rfl rfl rfl rfl rfl rfl ⟨rfl,rfl,rfl,rfl,rfl⟩ rfl rfl rfl rfl rfl kname8 Tryz.func8 kfacts8 kinst8 kwrap8
  (fun os started H enc _=>lines_lifted awake_h os started H enc)
end Go.Nv
end
