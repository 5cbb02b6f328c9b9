import Derived.Test.YtlmmifgminkdkaaGreatNxB1
set_option linter.all false
set_option maxRecDepth 100000
section
namespace Go.Nv
open Go.Proofs Nw Go.RowKit
theorem cn0:((csL.drop (6*0)).take 6).all cB=true:=by kernel_rfl
theorem cn3:((csL.drop (6*3)).take 6).all cB=true:=by kernel_rfl
theorem cn6:((csL.drop (6*6)).take 6).all cB=true:=by kernel_rfl
theorem cn9:((csL.drop (6*9)).take 6).all cB=true:=by kernel_rfl
end Go.Nv
end
