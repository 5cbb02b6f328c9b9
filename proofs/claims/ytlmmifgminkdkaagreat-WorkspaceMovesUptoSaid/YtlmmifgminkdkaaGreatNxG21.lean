import Derived.Test.YtlmmifgminkdkaaGreatNxA1
import Derived.Test.YtlmmifgminkdkaaGreatNxB1
set_option linter.all false
set_option maxRecDepth 100000
section
namespace Go.Nv
open Go.Proofs Nw Go.RowKit
theorem qvM:evF ev1 (evC ev1 20000) 256 [qgE,qas 0,qas 2] =some [qEy] :=by kernel_rfl
theorem qxv:evF ev1 (evC ev1 20000) 256 [qgE,qas 2,qas 3] =some [qBT] :=by kernel_rfl
theorem qvR:evF ev1 (evC ev1 20000) 256 [qgE,qas 3,qas 4] =some [qDU] :=by kernel_rfl
theorem qw4:evF ev1 (evC ev1 20000) 256 [qgE,qas 4,qas 9] =some [qEp] :=by kernel_rfl
theorem qwl:evF ev1 (evC ev1 20000) 256 [qgE,qas 9,qas 10] =some [qCh] :=by kernel_rfl
noncomputable def kn2:List (FuncId×List D×List D):= [(73, [qv2], [i64 0]),(73, [qwz], [i64 0]),(253, [quC,qxd], [qBZ]),(254, [qgE], [xsE]),(255, [qgE,qas 0], [qB0]),(255, [qgE,qas 2], [qCJ]),(255, [qgE,qas 3], [qCu]),(255, [qgE,qas 4], [qCi]),(255, [qgE,qas 9], [qDq]),(255, [qgE,qas 10], [qDJ]),(256, [qgE,qas 0,qas 2], [qEy]),(256, [qgE,qas 2,qas 3], [qBT]),(256, [qgE,qas 3,qas 4], [qDU]),(256, [qgE,qas 4,qas 9], [qEp]),(256, [qgE,qas 9,qas 10], [qCh])]
noncomputable def ev2:Ev:=⟨Tryz.prog,tbl,Tryz.prog.funcs.toList,muE,qta kn2,fun t=>Nat.beq t 159,fun g=>Nat.beq g 183,qxF,qlK⟩
theorem qAR:evF ev2 (evC ev2 20000) 132 [quC,qly] =some [qsN,i64 0] :=by kernel_rfl
theorem cells_ok:evF ev1 (evC ev1 20000) 259 [qsN] =some [.l (csL.map ceD)] :=by kernel_rfl
end Go.Nv
end
