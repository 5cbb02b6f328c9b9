import Derived.Test.YtdjbkccoofcnjaaGreatNvD7
set_option linter.all false
set_option linter.unusedVariables false
set_option linter.unusedSimpArgs false
section
namespace Go.Nv
open Go.Proofs Go.Proofs.YtdjbkccoofcnjaaGreat Go.RowKit
set_option maxRecDepth 100000
theorem kf3_1 : Rows.rasterRefinesRow.wf (OpenSpec.ofChange Rows.rasterRefinesSpec) = true := by kernel_rfl
theorem kf3_2 : mapsRowed Tryz.prog = true := by kernel_rfl
theorem kf3_3 : Tryz.f3.params.all (Tryz.prog.readableRec ·) = true := by kernel_rfl
theorem kf3_4 : namedTie Tryz.prog Rows.rasterRefinesRow.named Rows.rasterRefinesSpec.vars = true := by kernel_rfl
theorem kf3_5 : (Tryz.prog.stops == []) = true := by kernel_rfl
theorem kf3_6 : (Tryz.prog.stopKnobs == []) = true := by kernel_rfl
theorem kf3_7 : (Rows.rasterRefinesRow.inPlace == Tryz.prog.inPlace 3) = true := by kernel_rfl
theorem kf3_8 : (Rows.rasterRefinesRow.unfollowed == Tryz.prog.unfollowed 3) = true := by kernel_rfl
theorem kf3_9 : (Rows.rasterRefinesRow.recurses == Tryz.prog.recurses 3) = true := by kernel_rfl
theorem kf3_10 : (Rows.rasterRefinesRow.named == Tryz.prog.varsNamed 3) = true := by kernel_rfl
theorem kf3_11 : (Rows.rasterRefinesRow.plainKeys == Tryz.prog.plainKeys) = true := by kernel_rfl
theorem kf3_12 : Tryz.prog.stopsHeard = true := by kernel_rfl
theorem kf3_13 : Tryz.prog.mayEnter = true := by kernel_rfl
theorem kf3_14 : (Rows.rasterRefinesRow.lifted == Tryz.prog.liftsFinal) = true := by kernel_rfl
end Go.Nv
end
