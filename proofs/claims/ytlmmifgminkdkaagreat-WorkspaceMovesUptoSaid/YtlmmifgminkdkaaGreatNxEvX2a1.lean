import Derived.Test.YtlmmifgminkdkaaGreatNxA1
set_option linter.all false
set_option maxRecDepth 100000
section
namespace Go.Nv
open Go.Proofs Nw Go.RowKit
theorem qn9:evF ev1 (evC ev1 20000) 267 [.a (((ptD 4 2).cells)++(ptD 4 4).cells),.a (((ptD 2 2).cells)++(ptD 4 2).cells)] =some [.a (((ptD 4 2).cells)++(ptD 4 2).cells),.v (.bool true),i64 0] :=by kernel_rfl
theorem qod:evF ev1 (evC ev1 20000) 267 [.a (((ptD 2 4).cells)++(ptD 4 4).cells),.a (((ptD 2 2).cells)++(ptD 4 2).cells)] =some [.a (((ptD 0 0).cells)++(ptD 0 0).cells),.v (.bool false),i64 0] :=by kernel_rfl
theorem qoe:evF ev1 (evC ev1 20000) 267 [.a (((ptD 2 4).cells)++(ptD 4 4).cells),.a (((ptD 4 2).cells)++(ptD 4 4).cells)] =some [.a (((ptD 4 4).cells)++(ptD 4 4).cells),.v (.bool true),i64 0] :=by kernel_rfl
theorem qnQ:evF ev1 (evC ev1 20000) 267 [.a (((ptD 2 2).cells)++(ptD 2 4).cells),.a (((ptD 2 2).cells)++(ptD 4 2).cells)] =some [.a (((ptD 2 2).cells)++(ptD 2 2).cells),.v (.bool true),i64 0] :=by kernel_rfl
theorem qn2:evF ev1 (evC ev1 20000) 267 [.a (((ptD 2 2).cells)++(ptD 2 4).cells),.a (((ptD 4 2).cells)++(ptD 4 4).cells)] =some [.a (((ptD 0 0).cells)++(ptD 0 0).cells),.v (.bool false),i64 0] :=by kernel_rfl
theorem qnN:evF ev1 (evC ev1 20000) 267 [.a (((ptD 2 2).cells)++(ptD 2 4).cells),.a (((ptD 2 4).cells)++(ptD 4 4).cells)] =some [.a (((ptD 2 4).cells)++(ptD 2 4).cells),.v (.bool true),i64 0] :=by kernel_rfl
theorem qoF:evF ev1 (evC ev1 20000) 267 [.a (((ptD 3 3).cells)++(ptD 9 3).cells),.a (((ptD 2 2).cells)++(ptD 4 2).cells)] =some [.a (((ptD 0 0).cells)++(ptD 0 0).cells),.v (.bool false),i64 0] :=by kernel_rfl
theorem qon:evF ev1 (evC ev1 20000) 267 [.a (((ptD 3 3).cells)++(ptD 9 3).cells),.a (((ptD 4 2).cells)++(ptD 4 4).cells)] =some [.a (((ptD 4 3).cells)++(ptD 4 3).cells),.v (.bool true),i64 0] :=by kernel_rfl
theorem qnR:evF ev1 (evC ev1 20000) 267 [.a (((ptD 3 3).cells)++(ptD 9 3).cells),.a (((ptD 2 4).cells)++(ptD 4 4).cells)] =some [.a (((ptD 0 0).cells)++(ptD 0 0).cells),.v (.bool false),i64 0] :=by kernel_rfl
theorem qnX:evF ev1 (evC ev1 20000) 267 [.a (((ptD 3 3).cells)++(ptD 9 3).cells),.a (((ptD 2 2).cells)++(ptD 2 4).cells)] =some [.a (((ptD 0 0).cells)++(ptD 0 0).cells),.v (.bool false),i64 0] :=by kernel_rfl
theorem qnU:evF ev1 (evC ev1 20000) 267 [.a (((ptD 3 6).cells)++(ptD 9 3).cells),.a (((ptD 2 2).cells)++(ptD 4 2).cells)] =some [.a (((ptD 0 0).cells)++(ptD 0 0).cells),.v (.bool false),i64 0] :=by kernel_rfl
theorem qoG:evF ev1 (evC ev1 20000) 267 [.a (((ptD 3 6).cells)++(ptD 9 3).cells),.a (((ptD 4 2).cells)++(ptD 4 4).cells)] =some [.a (((ptD 0 0).cells)++(ptD 0 0).cells),.v (.bool false),i64 0] :=by kernel_rfl
theorem qnL:evF ev1 (evC ev1 20000) 267 [.a (((ptD 3 6).cells)++(ptD 9 3).cells),.a (((ptD 2 4).cells)++(ptD 4 4).cells)] =some [.a (((ptD 0 0).cells)++(ptD 0 0).cells),.v (.bool false),i64 0] :=by kernel_rfl
theorem qn0:evF ev1 (evC ev1 20000) 267 [.a (((ptD 3 6).cells)++(ptD 9 3).cells),.a (((ptD 2 2).cells)++(ptD 2 4).cells)] =some [.a (((ptD 0 0).cells)++(ptD 0 0).cells),.v (.bool false),i64 0] :=by kernel_rfl
theorem qoh:evF ev1 (evC ev1 20000) 267 [.a (((ptD 3 6).cells)++(ptD 9 3).cells),.a (((ptD 3 3).cells)++(ptD 9 3).cells)] =some [.a (((ptD 9 3).cells)++(ptD 9 3).cells),.v (.bool true),i64 0] :=by kernel_rfl
theorem qn3:evF ev1 (evC ev1 20000) 267 [.a (((ptD 3 3).cells)++(ptD 3 6).cells),.a (((ptD 2 2).cells)++(ptD 4 2).cells)] =some [.a (((ptD 0 0).cells)++(ptD 0 0).cells),.v (.bool false),i64 0] :=by kernel_rfl
theorem qn6:evF ev1 (evC ev1 20000) 267 [.a (((ptD 3 3).cells)++(ptD 3 6).cells),.a (((ptD 4 2).cells)++(ptD 4 4).cells)] =some [.a (((ptD 0 0).cells)++(ptD 0 0).cells),.v (.bool false),i64 0] :=by kernel_rfl
theorem qot:evF ev1 (evC ev1 20000) 267 [.a (((ptD 3 3).cells)++(ptD 3 6).cells),.a (((ptD 2 4).cells)++(ptD 4 4).cells)] =some [.a (((ptD 3 4).cells)++(ptD 3 4).cells),.v (.bool true),i64 0] :=by kernel_rfl
theorem qoc:evF ev1 (evC ev1 20000) 267 [.a (((ptD 3 3).cells)++(ptD 3 6).cells),.a (((ptD 2 2).cells)++(ptD 2 4).cells)] =some [.a (((ptD 0 0).cells)++(ptD 0 0).cells),.v (.bool false),i64 0] :=by kernel_rfl
theorem qoE:evF ev1 (evC ev1 20000) 267 [.a (((ptD 3 3).cells)++(ptD 3 6).cells),.a (((ptD 3 3).cells)++(ptD 9 3).cells)] =some [.a (((ptD 3 3).cells)++(ptD 3 3).cells),.v (.bool true),i64 0] :=by kernel_rfl
theorem qnM:evF ev1 (evC ev1 20000) 267 [.a (((ptD 3 3).cells)++(ptD 3 6).cells),.a (((ptD 3 6).cells)++(ptD 9 3).cells)] =some [.a (((ptD 3 6).cells)++(ptD 3 6).cells),.v (.bool true),i64 0] :=by kernel_rfl
end Go.Nv
end
