import Derived.Test.YtlmmifgminkdkaaGreatNwA1
import Derived.Test.YtlmmifgminkdkaaGreatNwB1
set_option linter.all false
set_option maxRecDepth 100000
section
namespace Go.Nv
open Go.Proofs Nw Go.RowKit
theorem qwF:evF ev1 (evC ev1 20000) 256 [qgy,qar 0,qar 2] =some [qBi] :=by kernel_rfl
theorem qvA:evF ev1 (evC ev1 20000) 256 [qgy,qar 2,qar 3] =some [qDu] :=by kernel_rfl
theorem quF:evF ev1 (evC ev1 20000) 256 [qgy,qar 3,qar 4] =some [qDo] :=by kernel_rfl
theorem qv4:evF ev1 (evC ev1 20000) 256 [qgy,qar 4,qar 9] =some [qBz] :=by kernel_rfl
theorem qwj:evF ev1 (evC ev1 20000) 256 [qgy,qar 9,qar 10] =some [qBK] :=by kernel_rfl
noncomputable def kn2:List (FuncId×List D×List D):= [(73, [quw], [i64 0]),(73, [qu8], [i64 0]),(253, [qtl,qvz], [qCw]),(254, [qgy], [xsE]),(255, [qgy,qar 0], [qCG]),(255, [qgy,qar 2], [qAR]),(255, [qgy,qar 3], [qB7]),(255, [qgy,qar 4], [qCQ]),(255, [qgy,qar 9], [qBP]),(255, [qgy,qar 10], [qA0]),(256, [qgy,qar 0,qar 2], [qBi]),(256, [qgy,qar 2,qar 3], [qDu]),(256, [qgy,qar 3,qar 4], [qDo]),(256, [qgy,qar 4,qar 9], [qBz]),(256, [qgy,qar 9,qar 10], [qBK])]
noncomputable def ev2:Ev:=⟨Tryz.prog,tbl,Tryz.prog.funcs.toList,muE,qsj kn2,fun t=>Nat.beq t 159,fun g=>Nat.beq g 183,qup,qlq⟩
theorem qyo:evF ev2 (evC ev2 20000) 132 [qtl,qlA] =some [qsx,i64 0] :=by kernel_rfl
theorem cells_ok:evF ev1 (evC ev1 20000) 259 [qsx] =some [.l (csL.map ceD)] :=by kernel_rfl
end Go.Nv
end
