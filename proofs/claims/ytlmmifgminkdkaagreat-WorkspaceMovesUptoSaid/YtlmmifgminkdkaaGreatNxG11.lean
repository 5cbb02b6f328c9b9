import Derived.Test.YtlmmifgminkdkaaGreatNxA1
set_option linter.all false
set_option maxRecDepth 100000
section
namespace Go.Nv
open Go.Proofs Nw Go.RowKit
theorem quZ:evF ev1 (evC ev1 20000) 253 [quC,qxd] =some [qBZ] :=by kernel_rfl
theorem qvn:evF ev1 (evC ev1 20000) 255 [qgE,qas 0] =some [qB0] :=by kernel_rfl
theorem qxg:evF ev1 (evC ev1 20000) 255 [qgE,qas 2] =some [qCJ] :=by kernel_rfl
theorem qwj:evF ev1 (evC ev1 20000) 255 [qgE,qas 3] =some [qCu] :=by kernel_rfl
theorem qvh:evF ev1 (evC ev1 20000) 255 [qgE,qas 4] =some [qCi] :=by kernel_rfl
theorem qwU:evF ev1 (evC ev1 20000) 255 [qgE,qas 9] =some [qDq] :=by kernel_rfl
theorem qxD:evF ev1 (evC ev1 20000) 255 [qgE,qas 10] =some [qDJ] :=by kernel_rfl
end Go.Nv
end
