import Derived.Test.YtlmmifgminkdkaaGreatNxEvX2b1
import Derived.Test.YtlmmifgminkdkaaGreatNxB1
set_option linter.all false
set_option maxRecDepth 100000
section
namespace Go.Nv
open Go.Proofs Nw Go.RowKit
noncomputable def knm:List (FuncId×List D×List D):= [(267, [.a (((ptD 4 2).cells)++(ptD 4 4).cells),.a (((ptD 2 2).cells)++(ptD 4 2).cells)], [.a (((ptD 4 2).cells)++(ptD 4 2).cells),.v (.bool true),i64 0]),(267, [.a (((ptD 2 4).cells)++(ptD 4 4).cells),.a (((ptD 2 2).cells)++(ptD 4 2).cells)], [.a (((ptD 0 0).cells)++(ptD 0 0).cells),.v (.bool false),i64 0]),(267, [.a (((ptD 2 4).cells)++(ptD 4 4).cells),.a (((ptD 4 2).cells)++(ptD 4 4).cells)], [.a (((ptD 4 4).cells)++(ptD 4 4).cells),.v (.bool true),i64 0]),(267, [.a (((ptD 2 2).cells)++(ptD 2 4).cells),.a (((ptD 2 2).cells)++(ptD 4 2).cells)], [.a (((ptD 2 2).cells)++(ptD 2 2).cells),.v (.bool true),i64 0]),(267, [.a (((ptD 2 2).cells)++(ptD 2 4).cells),.a (((ptD 4 2).cells)++(ptD 4 4).cells)], [.a (((ptD 0 0).cells)++(ptD 0 0).cells),.v (.bool false),i64 0]),(267, [.a (((ptD 2 2).cells)++(ptD 2 4).cells),.a (((ptD 2 4).cells)++(ptD 4 4).cells)], [.a (((ptD 2 4).cells)++(ptD 2 4).cells),.v (.bool true),i64 0]),(267, [.a (((ptD 3 3).cells)++(ptD 9 3).cells),.a (((ptD 2 2).cells)++(ptD 4 2).cells)], [.a (((ptD 0 0).cells)++(ptD 0 0).cells),.v (.bool false),i64 0]),(267, [.a (((ptD 3 3).cells)++(ptD 9 3).cells),.a (((ptD 4 2).cells)++(ptD 4 4).cells)], [.a (((ptD 4 3).cells)++(ptD 4 3).cells),.v (.bool true),i64 0]),(267, [.a (((ptD 3 3).cells)++(ptD 9 3).cells),.a (((ptD 2 4).cells)++(ptD 4 4).cells)], [.a (((ptD 0 0).cells)++(ptD 0 0).cells),.v (.bool false),i64 0]),(267, [.a (((ptD 3 3).cells)++(ptD 9 3).cells),.a (((ptD 2 2).cells)++(ptD 2 4).cells)], [.a (((ptD 0 0).cells)++(ptD 0 0).cells),.v (.bool false),i64 0]),(267, [.a (((ptD 3 6).cells)++(ptD 9 3).cells),.a (((ptD 2 2).cells)++(ptD 4 2).cells)], [.a (((ptD 0 0).cells)++(ptD 0 0).cells),.v (.bool false),i64 0]),(267, [.a (((ptD 3 6).cells)++(ptD 9 3).cells),.a (((ptD 4 2).cells)++(ptD 4 4).cells)], [.a (((ptD 0 0).cells)++(ptD 0 0).cells),.v (.bool false),i64 0]),(267, [.a (((ptD 3 6).cells)++(ptD 9 3).cells),.a (((ptD 2 4).cells)++(ptD 4 4).cells)], [.a (((ptD 0 0).cells)++(ptD 0 0).cells),.v (.bool false),i64 0]),(267, [.a (((ptD 3 6).cells)++(ptD 9 3).cells),.a (((ptD 2 2).cells)++(ptD 2 4).cells)], [.a (((ptD 0 0).cells)++(ptD 0 0).cells),.v (.bool false),i64 0]),(267, [.a (((ptD 3 6).cells)++(ptD 9 3).cells),.a (((ptD 3 3).cells)++(ptD 9 3).cells)], [.a (((ptD 9 3).cells)++(ptD 9 3).cells),.v (.bool true),i64 0]),(267, [.a (((ptD 3 3).cells)++(ptD 3 6).cells),.a (((ptD 2 2).cells)++(ptD 4 2).cells)], [.a (((ptD 0 0).cells)++(ptD 0 0).cells),.v (.bool false),i64 0]),(267, [.a (((ptD 3 3).cells)++(ptD 3 6).cells),.a (((ptD 4 2).cells)++(ptD 4 4).cells)], [.a (((ptD 0 0).cells)++(ptD 0 0).cells),.v (.bool false),i64 0]),(267, [.a (((ptD 3 3).cells)++(ptD 3 6).cells),.a (((ptD 2 4).cells)++(ptD 4 4).cells)], [.a (((ptD 3 4).cells)++(ptD 3 4).cells),.v (.bool true),i64 0]),(267, [.a (((ptD 3 3).cells)++(ptD 3 6).cells),.a (((ptD 2 2).cells)++(ptD 2 4).cells)], [.a (((ptD 0 0).cells)++(ptD 0 0).cells),.v (.bool false),i64 0]),(267, [.a (((ptD 3 3).cells)++(ptD 3 6).cells),.a (((ptD 3 3).cells)++(ptD 9 3).cells)], [.a (((ptD 3 3).cells)++(ptD 3 3).cells),.v (.bool true),i64 0]),(267, [.a (((ptD 3 3).cells)++(ptD 3 6).cells),.a (((ptD 3 6).cells)++(ptD 9 3).cells)], [.a (((ptD 3 6).cells)++(ptD 3 6).cells),.v (.bool true),i64 0])]
noncomputable def evm:Ev:=⟨Tryz.prog,tbl,Tryz.prog.funcs.toList,muE,qta knm,fun t=>Nat.beq t 159,fun g=>Nat.beq g 183,qxF,qDy⟩
theorem qwW:evF evm (evC evm 20000) 254 [qgE] =some [xsE] :=by kernel_rfl
theorem mm0:((csL.drop (6*0)).take 6).all mB=true:=by kernel_rfl
theorem mm1:((csL.drop (6*1)).take 6).all mB=true:=by kernel_rfl
theorem mm2:((csL.drop (6*2)).take 6).all mB=true:=by kernel_rfl
theorem mm3:((csL.drop (6*3)).take 6).all mB=true:=by kernel_rfl
theorem mm4:((csL.drop (6*4)).take 6).all mB=true:=by kernel_rfl
theorem mm5:((csL.drop (6*5)).take 6).all mB=true:=by kernel_rfl
theorem mm6:((csL.drop (6*6)).take 6).all mB=true:=by kernel_rfl
theorem mm7:((csL.drop (6*7)).take 6).all mB=true:=by kernel_rfl
theorem mm8:((csL.drop (6*8)).take 6).all mB=true:=by kernel_rfl
theorem mm9:((csL.drop (6*9)).take 6).all mB=true:=by kernel_rfl
theorem qFR:((csL.drop (6*10)).take 6).all mB=true:=by kernel_rfl
theorem qFl:((csL.drop (6*11)).take 6).all mB=true:=by kernel_rfl
theorem qF9{n:Nat}{g:FuncId}{ds res:List D}(h:evF evI (evC evI n) g ds=some res):Fun Tryz.prog g ds (qbr (nlD 8) res):=
 qxM rfl rfl rfl (fun g ds res h=>qiy chA chB (by simp) (by simp) h) (qff (E:=evI) tOk) h
end Go.Nv
end
