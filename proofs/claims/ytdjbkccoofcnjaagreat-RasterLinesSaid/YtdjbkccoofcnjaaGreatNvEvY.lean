import Derived.Test.YtdjbkccoofcnjaaGreatNvEvX
set_option linter.all false
set_option maxRecDepth 100000
section
namespace Go.Nv
open Go.Proofs Nw Go.RowKit
abbrev prtD:D:= .v (.string ⟨#[53,46,10,35,53,10]⟩)
theorem prt_ok:evF ev0 (evC ev0 1000) 43 [covD,i64 2,i64 2] =some [prtD,i64 0] :=by kernel_rfl
noncomputable def kn2:List (FuncId×List D×List D):= [(13, [triD,quD 0 0 4 4,i64 2,i64 2], [covD,i64 0]),(43, [covD,i64 2,i64 2], [prtD,i64 0])]
noncomputable def ev2:Ev:=⟨Tryz.prog,tbl,Tryz.prog.funcs.toList,muE,orcK kn2,fun t=>Nat.beq t 164⟩
theorem awake_ok:evF ev2 (evC ev2 1000) 12 [] =some [.v (.bool true)] :=by kernel_rfl
end Go.Nv
end
