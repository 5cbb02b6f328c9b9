import Derived.Test.YtlmmifgminkdkaaGreatNvA1
set_option linter.all false
set_option maxRecDepth 100000
section
namespace Go.Nv
open Go.Proofs Nw Go.RowKit
theorem qoo:evF ev1 (evC ev1 20000) 267 [.a (((ptD 4 2).cells)++(ptD 4 4).cells),.a (((ptD 2 2).cells)++(ptD 4 2).cells)] =some [.a (((ptD 4 2).cells)++(ptD 4 2).cells),.v (.bool true),i64 0] :=by kernel_rfl
theorem qol:evF ev1 (evC ev1 20000) 267 [.a (((ptD 2 4).cells)++(ptD 4 4).cells),.a (((ptD 2 2).cells)++(ptD 4 2).cells)] =some [.a (((ptD 0 0).cells)++(ptD 0 0).cells),.v (.bool false),i64 0] :=by kernel_rfl
theorem qok:evF ev1 (evC ev1 20000) 267 [.a (((ptD 2 4).cells)++(ptD 4 4).cells),.a (((ptD 4 2).cells)++(ptD 4 4).cells)] =some [.a (((ptD 4 4).cells)++(ptD 4 4).cells),.v (.bool true),i64 0] :=by kernel_rfl
theorem qow:evF ev1 (evC ev1 20000) 267 [.a (((ptD 2 2).cells)++(ptD 2 4).cells),.a (((ptD 2 2).cells)++(ptD 4 2).cells)] =some [.a (((ptD 2 2).cells)++(ptD 2 2).cells),.v (.bool true),i64 0] :=by kernel_rfl
theorem qon:evF ev1 (evC ev1 20000) 267 [.a (((ptD 2 2).cells)++(ptD 2 4).cells),.a (((ptD 4 2).cells)++(ptD 4 4).cells)] =some [.a (((ptD 0 0).cells)++(ptD 0 0).cells),.v (.bool false),i64 0] :=by kernel_rfl
theorem qoY:evF ev1 (evC ev1 20000) 267 [.a (((ptD 2 2).cells)++(ptD 2 4).cells),.a (((ptD 2 4).cells)++(ptD 4 4).cells)] =some [.a (((ptD 2 4).cells)++(ptD 2 4).cells),.v (.bool true),i64 0] :=by kernel_rfl
theorem qou:evF ev1 (evC ev1 20000) 267 [.a (((ptD 3 3).cells)++(ptD 9 3).cells),.a (((ptD 2 2).cells)++(ptD 4 2).cells)] =some [.a (((ptD 0 0).cells)++(ptD 0 0).cells),.v (.bool false),i64 0] :=by kernel_rfl
theorem qop:evF ev1 (evC ev1 20000) 267 [.a (((ptD 3 3).cells)++(ptD 9 3).cells),.a (((ptD 4 2).cells)++(ptD 4 4).cells)] =some [.a (((ptD 4 3).cells)++(ptD 4 3).cells),.v (.bool true),i64 0] :=by kernel_rfl
theorem qn6:evF ev1 (evC ev1 20000) 267 [.a (((ptD 3 3).cells)++(ptD 9 3).cells),.a (((ptD 2 4).cells)++(ptD 4 4).cells)] =some [.a (((ptD 0 0).cells)++(ptD 0 0).cells),.v (.bool false),i64 0] :=by kernel_rfl
theorem qoe:evF ev1 (evC ev1 20000) 267 [.a (((ptD 3 3).cells)++(ptD 9 3).cells),.a (((ptD 2 2).cells)++(ptD 2 4).cells)] =some [.a (((ptD 0 0).cells)++(ptD 0 0).cells),.v (.bool false),i64 0] :=by kernel_rfl
theorem qoC:evF ev1 (evC ev1 20000) 267 [.a (((ptD 3 6).cells)++(ptD 9 3).cells),.a (((ptD 2 2).cells)++(ptD 4 2).cells)] =some [.a (((ptD 0 0).cells)++(ptD 0 0).cells),.v (.bool false),i64 0] :=by kernel_rfl
theorem qom:evF ev1 (evC ev1 20000) 267 [.a (((ptD 3 6).cells)++(ptD 9 3).cells),.a (((ptD 4 2).cells)++(ptD 4 4).cells)] =some [.a (((ptD 0 0).cells)++(ptD 0 0).cells),.v (.bool false),i64 0] :=by kernel_rfl
theorem qo3:evF ev1 (evC ev1 20000) 267 [.a (((ptD 3 6).cells)++(ptD 9 3).cells),.a (((ptD 2 4).cells)++(ptD 4 4).cells)] =some [.a (((ptD 0 0).cells)++(ptD 0 0).cells),.v (.bool false),i64 0] :=by kernel_rfl
theorem qn3:evF ev1 (evC ev1 20000) 267 [.a (((ptD 3 6).cells)++(ptD 9 3).cells),.a (((ptD 2 2).cells)++(ptD 2 4).cells)] =some [.a (((ptD 0 0).cells)++(ptD 0 0).cells),.v (.bool false),i64 0] :=by kernel_rfl
theorem qoH:evF ev1 (evC ev1 20000) 267 [.a (((ptD 3 6).cells)++(ptD 9 3).cells),.a (((ptD 3 3).cells)++(ptD 9 3).cells)] =some [.a (((ptD 9 3).cells)++(ptD 9 3).cells),.v (.bool true),i64 0] :=by kernel_rfl
theorem qo1:evF ev1 (evC ev1 20000) 267 [.a (((ptD 3 3).cells)++(ptD 3 6).cells),.a (((ptD 2 2).cells)++(ptD 4 2).cells)] =some [.a (((ptD 0 0).cells)++(ptD 0 0).cells),.v (.bool false),i64 0] :=by kernel_rfl
theorem qn7:evF ev1 (evC ev1 20000) 267 [.a (((ptD 3 3).cells)++(ptD 3 6).cells),.a (((ptD 4 2).cells)++(ptD 4 4).cells)] =some [.a (((ptD 0 0).cells)++(ptD 0 0).cells),.v (.bool false),i64 0] :=by kernel_rfl
theorem qoF:evF ev1 (evC ev1 20000) 267 [.a (((ptD 3 3).cells)++(ptD 3 6).cells),.a (((ptD 2 4).cells)++(ptD 4 4).cells)] =some [.a (((ptD 3 4).cells)++(ptD 3 4).cells),.v (.bool true),i64 0] :=by kernel_rfl
theorem qoP:evF ev1 (evC ev1 20000) 267 [.a (((ptD 3 3).cells)++(ptD 3 6).cells),.a (((ptD 2 2).cells)++(ptD 2 4).cells)] =some [.a (((ptD 0 0).cells)++(ptD 0 0).cells),.v (.bool false),i64 0] :=by kernel_rfl
theorem qov:evF ev1 (evC ev1 20000) 267 [.a (((ptD 3 3).cells)++(ptD 3 6).cells),.a (((ptD 3 3).cells)++(ptD 9 3).cells)] =some [.a (((ptD 3 3).cells)++(ptD 3 3).cells),.v (.bool true),i64 0] :=by kernel_rfl
theorem qoU:evF ev1 (evC ev1 20000) 267 [.a (((ptD 3 3).cells)++(ptD 3 6).cells),.a (((ptD 3 6).cells)++(ptD 9 3).cells)] =some [.a (((ptD 3 6).cells)++(ptD 3 6).cells),.v (.bool true),i64 0] :=by kernel_rfl
end Go.Nv
end
