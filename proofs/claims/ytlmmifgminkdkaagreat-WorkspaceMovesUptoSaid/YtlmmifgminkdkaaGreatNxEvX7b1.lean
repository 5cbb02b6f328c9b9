import Derived.Test.YtlmmifgminkdkaaGreatNxB1
set_option linter.all false
set_option maxRecDepth 100000
section
namespace Go.Nv
open Go.Proofs Nw Go.RowKit
theorem cn1:((csL.drop (6*1)).take 6).all cB=true:=by kernel_rfl
theorem cn4:((csL.drop (6*4)).take 6).all cB=true:=by kernel_rfl
theorem cn7:((csL.drop (6*7)).take 6).all cB=true:=by kernel_rfl
theorem qFI:((csL.drop (6*10)).take 6).all cB=true:=by kernel_rfl
end Go.Nv
end
