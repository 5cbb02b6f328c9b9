import Derived.Test.YtdjbkccoofcnjaaGreatNvD13
set_option linter.all false
set_option linter.unusedVariables false
set_option linter.unusedSimpArgs false
section
namespace Go.Nv
open Go.Proofs Go.Proofs.YtdjbkccoofcnjaaGreat Go.RowKit
set_option maxRecDepth 100000
theorem kf10_1 : Rows.rasterScansRow.wf (OpenSpec.ofChange Rows.rasterScansSpec) = true := by kernel_rfl
theorem kf10_2 : mapsRowed Tryz.prog = true := by kernel_rfl
theorem kf10_3 : Tryz.f10.params.all (Tryz.prog.readableRec ·) = true := by kernel_rfl
theorem kf10_4 : namedTie Tryz.prog Rows.rasterScansRow.named Rows.rasterScansSpec.vars = true := by kernel_rfl
theorem kf10_5 : (Tryz.prog.stops == []) = true := by kernel_rfl
theorem kf10_6 : (Tryz.prog.stopKnobs == []) = true := by kernel_rfl
theorem kf10_7 : (Rows.rasterScansRow.inPlace == Tryz.prog.inPlace 10) = true := by kernel_rfl
theorem kf10_8 : (Rows.rasterScansRow.unfollowed == Tryz.prog.unfollowed 10) = true := by kernel_rfl
theorem kf10_9 : (Rows.rasterScansRow.recurses == Tryz.prog.recurses 10) = true := by kernel_rfl
theorem kf10_10 : (Rows.rasterScansRow.named == Tryz.prog.varsNamed 10) = true := by kernel_rfl
theorem kf10_11 : (Rows.rasterScansRow.plainKeys == Tryz.prog.plainKeys) = true := by kernel_rfl
theorem kf10_12 : Tryz.prog.stopsHeard = true := by kernel_rfl
theorem kf10_13 : Tryz.prog.mayEnter = true := by kernel_rfl
theorem kf10_14 : (Rows.rasterScansRow.lifted == Tryz.prog.liftsFinal) = true := by kernel_rfl
end Go.Nv
end
