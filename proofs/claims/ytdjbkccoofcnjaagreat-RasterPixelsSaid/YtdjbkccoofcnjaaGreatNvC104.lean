import Derived.Test.YtdjbkccoofcnjaaGreatNvD7
set_option linter.all false
set_option linter.unusedVariables false
set_option linter.unusedSimpArgs false
section
namespace Go.Nv
open Go.Proofs Go.Proofs.YtdjbkccoofcnjaaGreat Go.RowKit
set_option maxRecDepth 100000
theorem pf1 : Rows.rasterPixelsRow.wf (OpenSpec.ofChange Rows.rasterPixelsSpec) = true := by kernel_rfl
theorem pf2 : mapsRowed Tryz.prog = true := by kernel_rfl
theorem pf3 : Tryz.f4.params.all (Tryz.prog.readableRec ·) = true := by kernel_rfl
theorem pf4 : namedTie Tryz.prog Rows.rasterPixelsRow.named Rows.rasterPixelsSpec.vars = true := by kernel_rfl
theorem pf5 : (Tryz.prog.stops == []) = true := by kernel_rfl
theorem pf6 : (Tryz.prog.stopKnobs == []) = true := by kernel_rfl
theorem pf7 : (Rows.rasterPixelsRow.inPlace == Tryz.prog.inPlace 4) = true := by kernel_rfl
theorem pf8 : (Rows.rasterPixelsRow.unfollowed == Tryz.prog.unfollowed 4) = true := by kernel_rfl
theorem pf9 : (Rows.rasterPixelsRow.recurses == Tryz.prog.recurses 4) = true := by kernel_rfl
theorem pf10 : (Rows.rasterPixelsRow.named == Tryz.prog.varsNamed 4) = true := by kernel_rfl
theorem pf11 : (Rows.rasterPixelsRow.plainKeys == Tryz.prog.plainKeys) = true := by kernel_rfl
theorem pf12 : Tryz.prog.stopsHeard = true := by kernel_rfl
theorem pf13 : Tryz.prog.mayEnter = true := by kernel_rfl
theorem pf14 : (Rows.rasterPixelsRow.lifted == Tryz.prog.liftsFinal) = true := by kernel_rfl
end Go.Nv
end
