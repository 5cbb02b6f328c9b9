import Derived.Test.YtlmmifgminkdkaaGreatNvB1
set_option linter.all false
set_option maxRecDepth 100000
section
namespace Go.Nv
open Go.Proofs Nw Go.RowKit
theorem cn2:((csL.drop (6*2)).take 6).all cB=true:=by kernel_rfl
theorem cn5:((csL.drop (6*5)).take 6).all cB=true:=by kernel_rfl
theorem cn8:((csL.drop (6*8)).take 6).all cB=true:=by kernel_rfl
theorem qGe:((csL.drop (6*11)).take 6).all cB=true:=by kernel_rfl
end Go.Nv
end
