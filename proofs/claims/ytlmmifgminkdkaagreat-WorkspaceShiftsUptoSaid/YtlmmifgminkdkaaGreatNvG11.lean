import Derived.Test.YtlmmifgminkdkaaGreatNvA1
set_option linter.all false
set_option maxRecDepth 100000
section
namespace Go.Nv
open Go.Proofs Nw Go.RowKit
theorem qvk:evF ev1 (evC ev1 20000) 253 [quM,qxu] =some [qCS] :=by kernel_rfl
theorem qwk:evF ev1 (evC ev1 20000) 255 [qgL,qas 0] =some [qEc] :=by kernel_rfl
theorem qxm:evF ev1 (evC ev1 20000) 255 [qgL,qas 2] =some [qCq] :=by kernel_rfl
theorem qx2:evF ev1 (evC ev1 20000) 255 [qgL,qas 3] =some [qEt] :=by kernel_rfl
theorem qxq:evF ev1 (evC ev1 20000) 255 [qgL,qas 4] =some [qCQ] :=by kernel_rfl
theorem qxi:evF ev1 (evC ev1 20000) 255 [qgL,qas 9] =some [qET] :=by kernel_rfl
theorem qwZ:evF ev1 (evC ev1 20000) 255 [qgL,qas 10] =some [qCc] :=by kernel_rfl
end Go.Nv
end
