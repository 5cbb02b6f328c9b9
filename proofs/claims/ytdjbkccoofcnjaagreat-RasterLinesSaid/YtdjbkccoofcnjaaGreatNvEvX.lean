import Derived.Test.YtdjbkccoofcnjaaGreatNvEvW
set_option linter.all false
set_option maxRecDepth 100000
section
namespace Go.Nv
open Go.Proofs Nw Go.RowKit
noncomputable def kn1:List (FuncId×List D×List D):= [(48, [triD], [i64 0]),(58, [ptsD,quD 0 2 2 4], [ratD 2]),(58, [ptsD,quD 2 2 4 4], [ratD 0]),(58, [ptsD,quD 0 0 2 2], [ratD 4]),(58, [ptsD,quD 2 0 4 2], [ratD 2])]
noncomputable def ev1:Ev:=⟨Tryz.prog,tbl,Tryz.prog.funcs.toList,muE,orcK kn1,fun t=>Nat.beq t 164⟩
abbrev covD:D:= .l [ratD (1/2),ratD 0,ratD 1,ratD (1/2)]
theorem cov_ok:evF ev1 (evC ev1 1000) 13 [triD,quD 0 0 4 4,i64 2,i64 2] =some [covD,i64 0] :=by kernel_rfl
end Go.Nv
end
