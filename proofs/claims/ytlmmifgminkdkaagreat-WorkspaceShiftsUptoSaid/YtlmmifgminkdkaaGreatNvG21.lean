import Derived.Test.YtlmmifgminkdkaaGreatNvA1
import Derived.Test.YtlmmifgminkdkaaGreatNvB1
set_option linter.all false
set_option maxRecDepth 100000
section
namespace Go.Nv
open Go.Proofs Nw Go.RowKit
theorem qw2:evF ev1 (evC ev1 20000) 256 [qgL,qas 0,qas 2] =some [qEm] :=by kernel_rfl
theorem qwc:evF ev1 (evC ev1 20000) 256 [qgL,qas 2,qas 3] =some [qEL] :=by kernel_rfl
theorem qvI:evF ev1 (evC ev1 20000) 256 [qgL,qas 3,qas 4] =some [qE1] :=by kernel_rfl
theorem qvt:evF ev1 (evC ev1 20000) 256 [qgL,qas 4,qas 9] =some [qEG] :=by kernel_rfl
theorem qwH:evF ev1 (evC ev1 20000) 256 [qgL,qas 9,qas 10] =some [qDR] :=by kernel_rfl
noncomputable def kn2:List (FuncId×List D×List D):= [(73, [qvg], [i64 0]),(73, [qxa], [i64 0]),(253, [quM,qxu], [qCS]),(254, [qgL], [xsE]),(255, [qgL,qas 0], [qEc]),(255, [qgL,qas 2], [qCq]),(255, [qgL,qas 3], [qEt]),(255, [qgL,qas 4], [qCQ]),(255, [qgL,qas 9], [qET]),(255, [qgL,qas 10], [qCc]),(256, [qgL,qas 0,qas 2], [qEm]),(256, [qgL,qas 2,qas 3], [qEL]),(256, [qgL,qas 3,qas 4], [qE1]),(256, [qgL,qas 4,qas 9], [qEG]),(256, [qgL,qas 9,qas 10], [qDR])]
noncomputable def ev2:Ev:=⟨Tryz.prog,tbl,Tryz.prog.funcs.toList,muE,qso kn2,fun t=>Nat.beq t 159,fun g=>Nat.beq g 183,qxP,qlF⟩
theorem qyE:evF ev2 (evC ev2 20000) 132 [quM,qmm] =some [qtg,i64 0] :=by kernel_rfl
theorem cells_ok:evF ev1 (evC ev1 20000) 259 [qtg] =some [.l (csL.map ceD)] :=by kernel_rfl
end Go.Nv
end
