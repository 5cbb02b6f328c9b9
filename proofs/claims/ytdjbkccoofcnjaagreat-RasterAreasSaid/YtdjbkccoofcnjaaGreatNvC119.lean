import Derived.Test.YtdjbkccoofcnjaaGreatNvD10
set_option linter.all false
set_option linter.unusedVariables false
set_option linter.unusedSimpArgs false
section
namespace Go.Nv
open Go.Proofs Go.Proofs.YtdjbkccoofcnjaaGreat Go.RowKit
set_option maxRecDepth 100000
theorem kf7_1 : Rows.rasterAreasRow.wf (OpenSpec.ofChange Rows.rasterAreasSpec) = true := by kernel_rfl
theorem kf7_2 : mapsRowed Tryz.prog = true := by kernel_rfl
theorem kf7_3 : Tryz.f7.params.all (Tryz.prog.readableRec ·) = true := by kernel_rfl
theorem kf7_4 : namedTie Tryz.prog Rows.rasterAreasRow.named Rows.rasterAreasSpec.vars = true := by kernel_rfl
theorem kf7_5 : (Tryz.prog.stops == []) = true := by kernel_rfl
theorem kf7_6 : (Tryz.prog.stopKnobs == []) = true := by kernel_rfl
theorem kf7_7 : (Rows.rasterAreasRow.inPlace == Tryz.prog.inPlace 7) = true := by kernel_rfl
theorem kf7_8 : (Rows.rasterAreasRow.unfollowed == Tryz.prog.unfollowed 7) = true := by kernel_rfl
theorem kf7_9 : (Rows.rasterAreasRow.recurses == Tryz.prog.recurses 7) = true := by kernel_rfl
theorem kf7_10 : (Rows.rasterAreasRow.named == Tryz.prog.varsNamed 7) = true := by kernel_rfl
theorem kf7_11 : (Rows.rasterAreasRow.plainKeys == Tryz.prog.plainKeys) = true := by kernel_rfl
theorem kf7_12 : Tryz.prog.stopsHeard = true := by kernel_rfl
theorem kf7_13 : Tryz.prog.mayEnter = true := by kernel_rfl
theorem kf7_14 : (Rows.rasterAreasRow.lifted == Tryz.prog.liftsFinal) = true := by kernel_rfl
end Go.Nv
end
