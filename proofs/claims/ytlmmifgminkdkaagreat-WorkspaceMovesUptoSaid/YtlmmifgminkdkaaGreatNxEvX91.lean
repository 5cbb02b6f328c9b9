import Derived.Test.YtlmmifgminkdkaaGreatNxB1
set_option linter.all false
set_option maxRecDepth 100000
section
namespace Go.Nv
open Go.Proofs Nw Go.RowKit
theorem ar0:((csL.drop (6*0)).take 6).all arB=true:=by kernel_rfl
theorem ar1:((csL.drop (6*1)).take 6).all arB=true:=by kernel_rfl
theorem ar2:((csL.drop (6*2)).take 6).all arB=true:=by kernel_rfl
theorem ar3:((csL.drop (6*3)).take 6).all arB=true:=by kernel_rfl
theorem ar4:((csL.drop (6*4)).take 6).all arB=true:=by kernel_rfl
theorem ar5:((csL.drop (6*5)).take 6).all arB=true:=by kernel_rfl
theorem ar6:((csL.drop (6*6)).take 6).all arB=true:=by kernel_rfl
theorem ar7:((csL.drop (6*7)).take 6).all arB=true:=by kernel_rfl
theorem ar8:((csL.drop (6*8)).take 6).all arB=true:=by kernel_rfl
theorem ar9:((csL.drop (6*9)).take 6).all arB=true:=by kernel_rfl
theorem qFY:((csL.drop (6*10)).take 6).all arB=true:=by kernel_rfl
theorem qFz:((csL.drop (6*11)).take 6).all arB=true:=by kernel_rfl
end Go.Nv
end
