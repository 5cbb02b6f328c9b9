import Derived.Test.YtlmmifgminkdkaaGreatNwA1
set_option linter.all false
set_option maxRecDepth 100000
section
namespace Go.Nv
open Go.Proofs Nw Go.RowKit
theorem qu1:evF ev1 (evC ev1 20000) 253 [qtl,qvz] =some [qCw] :=by kernel_rfl
theorem qu0:evF ev1 (evC ev1 20000) 255 [qgy,qar 0] =some [qCG] :=by kernel_rfl
theorem qvG:evF ev1 (evC ev1 20000) 255 [qgy,qar 2] =some [qAR] :=by kernel_rfl
theorem quf:evF ev1 (evC ev1 20000) 255 [qgy,qar 3] =some [qB7] :=by kernel_rfl
theorem qv9:evF ev1 (evC ev1 20000) 255 [qgy,qar 4] =some [qCQ] :=by kernel_rfl
theorem qur:evF ev1 (evC ev1 20000) 255 [qgy,qar 9] =some [qBP] :=by kernel_rfl
theorem qvq:evF ev1 (evC ev1 20000) 255 [qgy,qar 10] =some [qA0] :=by kernel_rfl
end Go.Nv
end
