import Derived.Test.YtdjbkccoofcnjaaGreatNvD19
set_option linter.all false
set_option maxRecDepth 100000
section
namespace Go.Nv
open Go.Proofs Go.Proofs.YtdjbkccoofcnjaaGreat Go.RowKit
theorem kf8_1:Rows.rasterLinesRow.wf (OpenSpec.ofChange Rows.rasterLinesSpec)=true:=by kernel_rfl
theorem kf8_2:mapsRowed Tryz.prog=true:=by kernel_rfl
theorem kf8_3:Tryz.f8.params.all (Tryz.prog.readableRec ·)=true:=by kernel_rfl
theorem kf8_4:namedTie Tryz.prog Rows.rasterLinesRow.named Rows.rasterLinesSpec.vars=true:=by kernel_rfl
theorem kf8_5:(Tryz.prog.stops== [])=true:=by kernel_rfl
theorem kf8_6:(Tryz.prog.stopKnobs== [])=true:=by kernel_rfl
theorem kf8_7:(Rows.rasterLinesRow.inPlace==Tryz.prog.inPlace 8)=true:=by kernel_rfl
theorem kf8_8:(Rows.rasterLinesRow.unfollowed==Tryz.prog.unfollowed 8)=true:=by kernel_rfl
theorem kf8_9:(Rows.rasterLinesRow.recurses==Tryz.prog.recurses 8)=true:=by kernel_rfl
theorem kf8_10:(Rows.rasterLinesRow.named==Tryz.prog.varsNamed 8)=true:=by kernel_rfl
theorem kf8_11:(Rows.rasterLinesRow.plainKeys==Tryz.prog.plainKeys)=true:=by kernel_rfl
theorem kf8_12:Tryz.prog.stopsHeard=true:=by kernel_rfl
theorem kf8_13:Tryz.prog.mayEnter=true:=by kernel_rfl
theorem kf8_14:(Rows.rasterLinesRow.lifted==Tryz.prog.liftsFinal)=true:=by kernel_rfl
end Go.Nv
end
