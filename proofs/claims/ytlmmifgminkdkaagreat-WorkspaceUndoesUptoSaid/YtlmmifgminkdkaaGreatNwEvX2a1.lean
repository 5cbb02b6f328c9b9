import Derived.Test.YtlmmifgminkdkaaGreatNwA1
set_option linter.all false
set_option maxRecDepth 100000
section
namespace Go.Nv
open Go.Proofs Nw Go.RowKit
theorem qn6:evF ev1 (evC ev1 20000) 267 [.a (((ptD 4 2).cells)++(ptD 4 4).cells),.a (((ptD 2 2).cells)++(ptD 4 2).cells)] =some [.a (((ptD 4 2).cells)++(ptD 4 2).cells),.v (.bool true),i64 0] :=by kernel_rfl
theorem qno:evF ev1 (evC ev1 20000) 267 [.a (((ptD 2 4).cells)++(ptD 4 4).cells),.a (((ptD 2 2).cells)++(ptD 4 2).cells)] =some [.a (((ptD 0 0).cells)++(ptD 0 0).cells),.v (.bool false),i64 0] :=by kernel_rfl
theorem qnm:evF ev1 (evC ev1 20000) 267 [.a (((ptD 2 4).cells)++(ptD 4 4).cells),.a (((ptD 4 2).cells)++(ptD 4 4).cells)] =some [.a (((ptD 4 4).cells)++(ptD 4 4).cells),.v (.bool true),i64 0] :=by kernel_rfl
theorem qnx:evF ev1 (evC ev1 20000) 267 [.a (((ptD 2 2).cells)++(ptD 2 4).cells),.a (((ptD 2 2).cells)++(ptD 4 2).cells)] =some [.a (((ptD 2 2).cells)++(ptD 2 2).cells),.v (.bool true),i64 0] :=by kernel_rfl
theorem qn7:evF ev1 (evC ev1 20000) 267 [.a (((ptD 2 2).cells)++(ptD 2 4).cells),.a (((ptD 4 2).cells)++(ptD 4 4).cells)] =some [.a (((ptD 0 0).cells)++(ptD 0 0).cells),.v (.bool false),i64 0] :=by kernel_rfl
theorem qn8:evF ev1 (evC ev1 20000) 267 [.a (((ptD 2 2).cells)++(ptD 2 4).cells),.a (((ptD 2 4).cells)++(ptD 4 4).cells)] =some [.a (((ptD 2 4).cells)++(ptD 2 4).cells),.v (.bool true),i64 0] :=by kernel_rfl
theorem qn0:evF ev1 (evC ev1 20000) 267 [.a (((ptD 3 3).cells)++(ptD 9 3).cells),.a (((ptD 2 2).cells)++(ptD 4 2).cells)] =some [.a (((ptD 0 0).cells)++(ptD 0 0).cells),.v (.bool false),i64 0] :=by kernel_rfl
theorem qod:evF ev1 (evC ev1 20000) 267 [.a (((ptD 3 3).cells)++(ptD 9 3).cells),.a (((ptD 4 2).cells)++(ptD 4 4).cells)] =some [.a (((ptD 4 3).cells)++(ptD 4 3).cells),.v (.bool true),i64 0] :=by kernel_rfl
theorem qnO:evF ev1 (evC ev1 20000) 267 [.a (((ptD 3 3).cells)++(ptD 9 3).cells),.a (((ptD 2 4).cells)++(ptD 4 4).cells)] =some [.a (((ptD 0 0).cells)++(ptD 0 0).cells),.v (.bool false),i64 0] :=by kernel_rfl
theorem qnI:evF ev1 (evC ev1 20000) 267 [.a (((ptD 3 3).cells)++(ptD 9 3).cells),.a (((ptD 2 2).cells)++(ptD 2 4).cells)] =some [.a (((ptD 0 0).cells)++(ptD 0 0).cells),.v (.bool false),i64 0] :=by kernel_rfl
theorem qnY:evF ev1 (evC ev1 20000) 267 [.a (((ptD 3 6).cells)++(ptD 9 3).cells),.a (((ptD 2 2).cells)++(ptD 4 2).cells)] =some [.a (((ptD 0 0).cells)++(ptD 0 0).cells),.v (.bool false),i64 0] :=by kernel_rfl
theorem qof:evF ev1 (evC ev1 20000) 267 [.a (((ptD 3 6).cells)++(ptD 9 3).cells),.a (((ptD 4 2).cells)++(ptD 4 4).cells)] =some [.a (((ptD 0 0).cells)++(ptD 0 0).cells),.v (.bool false),i64 0] :=by kernel_rfl
theorem qnE:evF ev1 (evC ev1 20000) 267 [.a (((ptD 3 6).cells)++(ptD 9 3).cells),.a (((ptD 2 4).cells)++(ptD 4 4).cells)] =some [.a (((ptD 0 0).cells)++(ptD 0 0).cells),.v (.bool false),i64 0] :=by kernel_rfl
theorem qnU:evF ev1 (evC ev1 20000) 267 [.a (((ptD 3 6).cells)++(ptD 9 3).cells),.a (((ptD 2 2).cells)++(ptD 2 4).cells)] =some [.a (((ptD 0 0).cells)++(ptD 0 0).cells),.v (.bool false),i64 0] :=by kernel_rfl
theorem qnA:evF ev1 (evC ev1 20000) 267 [.a (((ptD 3 6).cells)++(ptD 9 3).cells),.a (((ptD 3 3).cells)++(ptD 9 3).cells)] =some [.a (((ptD 9 3).cells)++(ptD 9 3).cells),.v (.bool true),i64 0] :=by kernel_rfl
theorem qn4:evF ev1 (evC ev1 20000) 267 [.a (((ptD 3 3).cells)++(ptD 3 6).cells),.a (((ptD 2 2).cells)++(ptD 4 2).cells)] =some [.a (((ptD 0 0).cells)++(ptD 0 0).cells),.v (.bool false),i64 0] :=by kernel_rfl
theorem qnp:evF ev1 (evC ev1 20000) 267 [.a (((ptD 3 3).cells)++(ptD 3 6).cells),.a (((ptD 4 2).cells)++(ptD 4 4).cells)] =some [.a (((ptD 0 0).cells)++(ptD 0 0).cells),.v (.bool false),i64 0] :=by kernel_rfl
theorem qnn:evF ev1 (evC ev1 20000) 267 [.a (((ptD 3 3).cells)++(ptD 3 6).cells),.a (((ptD 2 4).cells)++(ptD 4 4).cells)] =some [.a (((ptD 3 4).cells)++(ptD 3 4).cells),.v (.bool true),i64 0] :=by kernel_rfl
theorem qny:evF ev1 (evC ev1 20000) 267 [.a (((ptD 3 3).cells)++(ptD 3 6).cells),.a (((ptD 2 2).cells)++(ptD 2 4).cells)] =some [.a (((ptD 0 0).cells)++(ptD 0 0).cells),.v (.bool false),i64 0] :=by kernel_rfl
theorem qnR:evF ev1 (evC ev1 20000) 267 [.a (((ptD 3 3).cells)++(ptD 3 6).cells),.a (((ptD 3 3).cells)++(ptD 9 3).cells)] =some [.a (((ptD 3 3).cells)++(ptD 3 3).cells),.v (.bool true),i64 0] :=by kernel_rfl
theorem qnw:evF ev1 (evC ev1 20000) 267 [.a (((ptD 3 3).cells)++(ptD 3 6).cells),.a (((ptD 3 6).cells)++(ptD 9 3).cells)] =some [.a (((ptD 3 6).cells)++(ptD 3 6).cells),.v (.bool true),i64 0] :=by kernel_rfl
end Go.Nv
end
