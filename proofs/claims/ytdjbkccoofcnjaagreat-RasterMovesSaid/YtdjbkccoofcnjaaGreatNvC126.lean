import Derived.Test.YtdjbkccoofcnjaaGreatNvD11
set_option linter.all false
set_option linter.unusedVariables false
set_option linter.unusedSimpArgs false
section
namespace Go.Nv
open Go.Proofs Go.Proofs.YtdjbkccoofcnjaaGreat Go.RowKit
set_option maxRecDepth 100000
theorem kf9_1 : Rows.rasterMovesRow.wf (OpenSpec.ofChange Rows.rasterMovesSpec) = true := by kernel_rfl
theorem kf9_2 : mapsRowed Tryz.prog = true := by kernel_rfl
theorem kf9_3 : Tryz.f9.params.all (Tryz.prog.readableRec ·) = true := by kernel_rfl
theorem kf9_4 : namedTie Tryz.prog Rows.rasterMovesRow.named Rows.rasterMovesSpec.vars = true := by kernel_rfl
theorem kf9_5 : (Tryz.prog.stops == []) = true := by kernel_rfl
theorem kf9_6 : (Tryz.prog.stopKnobs == []) = true := by kernel_rfl
theorem kf9_7 : (Rows.rasterMovesRow.inPlace == Tryz.prog.inPlace 9) = true := by kernel_rfl
theorem kf9_8 : (Rows.rasterMovesRow.unfollowed == Tryz.prog.unfollowed 9) = true := by kernel_rfl
theorem kf9_9 : (Rows.rasterMovesRow.recurses == Tryz.prog.recurses 9) = true := by kernel_rfl
theorem kf9_10 : (Rows.rasterMovesRow.named == Tryz.prog.varsNamed 9) = true := by kernel_rfl
theorem kf9_11 : (Rows.rasterMovesRow.plainKeys == Tryz.prog.plainKeys) = true := by kernel_rfl
theorem kf9_12 : Tryz.prog.stopsHeard = true := by kernel_rfl
theorem kf9_13 : Tryz.prog.mayEnter = true := by kernel_rfl
theorem kf9_14 : (Rows.rasterMovesRow.lifted == Tryz.prog.liftsFinal) = true := by kernel_rfl
end Go.Nv
end
