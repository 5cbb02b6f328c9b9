import Derived.Test.YtlmmifgminkdkaaGreatNvA1
import Derived.Test.YtlmmifgminkdkaaGreatNvB1
import Derived.Test.YtlmmifgminkdkaaGreatNvG41
set_option linter.all false
set_option maxRecDepth 100000
section
namespace Go.Nv
open Go.Proofs Nw Go.RowKit
noncomputable def knK:List (FuncId×List D×List D):= [(26, [exD], [i64 0]),(67, [quM,qmm,i64 1], [qas 12,i64 0])]
noncomputable def evK:Ev:=⟨Tryz.prog,tbl,Tryz.prog.funcs.toList,muE,qx8 knK [],fun t=>Nat.beq t 159,fun g=>Nat.beq g 67,qxP,qlF⟩
theorem qBH:evF evK (evC evK 20000) 15 [exD] =some [qas 68,i64 0] :=by kernel_rfl
theorem qwu:evF evK (evC evK 20000) 38 [exD,ptD 3 3] =some [i64 0,.v (.bool true),i64 0] :=by kernel_rfl
theorem qx4:evF evK (evC evK 20000) 38 [exD,ptD 5 4] =some [i64 1,.v (.bool true),i64 0] :=by kernel_rfl
noncomputable def knL:List (FuncId×List D×List D):= [(26, [exD], [i64 0]),(15, [exD], [qas 68,i64 0]),(38, [exD,ptD 3 3], [i64 0,.v (.bool true),i64 0]),(38, [exD,ptD 5 4], [i64 1,.v (.bool true),i64 0])]
noncomputable def evL:Ev:=⟨Tryz.prog,tbl,Tryz.prog.funcs.toList,muE,qso knL,fun t=>Nat.beq t 159,fun g=>false,qxP,qlF⟩
theorem qyo:evF evL (evC evL 20000) 12 [] =some [.v (.bool true)] :=by kernel_rfl
end Go.Nv
end
section
namespace Go.Nv
open Go.Proofs Nw
theorem qFS:Fun Tryz.prog 67 [quM,qmm,i64 1] [qas 12,i64 0] :=by
 refine qac (fun t=>t==6||t==8) mixed tOk Tryz.func67 rfl rfl ?_
 conv=>whnf
 refine qaa rfl rfl qGl ?_
 conv=>whnf
 refine qaZ (by decide) ?_
 conv=>whnf
 refine qaa rfl rfl sumF ?_
 conv=>whnf
 refine ⟨?_, ?_,trivial⟩
 ·conv=>whnf
  exact ⟨rfl,rfl,rfl,trivial⟩
 ·conv=>whnf
end Go.Nv
end
section
namespace Go.Nv
open Go.Proofs Nw Go.RowKit
theorem qAR: ∀k∈knK,Fun Tryz.prog k.1 k.2.1 k.2.2:=List.forall_mem_cons.2 ⟨qFP,List.forall_mem_cons.2 ⟨qFS,fun _ h=>absurd h (by simp)⟩⟩
theorem qxv{n:Nat}{g:FuncId}{ds res:List D}(h:evF evK (evC evK n) g ds=some res):Fun Tryz.prog g ds (qbu (nlD 8) res):=
 qyf rfl rfl rfl (fun g ds res h=>qiS chA chB qAR (by simp) h) (qfs (E:=evK) tOk) h
theorem qAi: ∀k∈knL,Fun Tryz.prog k.1 k.2.1 k.2.2:=List.forall_mem_cons.2 ⟨qFP,List.forall_mem_cons.2 ⟨qxv qBH,List.forall_mem_cons.2 ⟨qxv qwu,List.forall_mem_cons.2 ⟨qxv qx4,fun _ h=>absurd h (by simp)⟩⟩⟩⟩
theorem qqQ:Fun Tryz.prog 12 [] [.v (.bool true)] :=
 qyf (E:=evL) rfl rfl rfl (fun g ds res h=>qcf qAi h) (qfs (E:=evL) tOk) qyo
end Go.Nv
end
