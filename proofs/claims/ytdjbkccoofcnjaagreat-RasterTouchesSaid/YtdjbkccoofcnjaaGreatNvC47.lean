import Derived.Test.YtdjbkccoofcnjaaGreatNvC46
set_option linter.all false
set_option linter.unusedVariables false
set_option linter.unusedSimpArgs false
section
namespace Go.Nv
open Go.Proofs Go.Proofs.YtdjbkccoofcnjaaGreat Go.RowKit
set_option maxRecDepth 100000
theorem jf1 : Rows.rasterTouchesRow.wf (OpenSpec.ofChange Rows.rasterTouchesSpec) = true := by kernel_rfl
theorem jf2 : mapsRowed Tryz.prog = true := by kernel_rfl
theorem jf3 : Tryz.f5.params.all (Tryz.prog.readableRec ·) = true := by kernel_rfl
theorem jf4 : namedTie Tryz.prog Rows.rasterTouchesRow.named Rows.rasterTouchesSpec.vars = true := by kernel_rfl
theorem jf5 : (Tryz.prog.stops == []) = true := by kernel_rfl
theorem jf6 : (Tryz.prog.stopKnobs == []) = true := by kernel_rfl
theorem jf7 : (Rows.rasterTouchesRow.inPlace == Tryz.prog.inPlace 5) = true := by kernel_rfl
theorem jf8 : (Rows.rasterTouchesRow.unfollowed == Tryz.prog.unfollowed 5) = true := by kernel_rfl
theorem jf9 : (Rows.rasterTouchesRow.recurses == Tryz.prog.recurses 5) = true := by kernel_rfl
theorem jf10 : (Rows.rasterTouchesRow.named == Tryz.prog.varsNamed 5) = true := by kernel_rfl
theorem jf11 : (Rows.rasterTouchesRow.plainKeys == Tryz.prog.plainKeys) = true := by kernel_rfl
theorem jf12 : Tryz.prog.stopsHeard = true := by kernel_rfl
theorem jf13 : Tryz.prog.mayEnter = true := by kernel_rfl
theorem jf14 : (Rows.rasterTouchesRow.lifted == Tryz.prog.liftsFinal) = true := by kernel_rfl
end Go.Nv
end
