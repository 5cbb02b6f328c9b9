import Derived.Test.YtlmmifgminkdkaaGreatNwA1
import Derived.Test.YtlmmifgminkdkaaGreatNwB1
import Derived.Test.YtlmmifgminkdkaaGreatNwG41
set_option linter.all false
set_option maxRecDepth 100000
section
namespace Go.Nv
open Go.Proofs Nw Go.RowKit
noncomputable def knK:List (FuncId×List D×List D):= [(26, [exD], [i64 0]),(67, [qtl,qlA,i64 1], [qar 12,i64 0])]
noncomputable def evK:Ev:=⟨Tryz.prog,tbl,Tryz.prog.funcs.toList,muE,qw3 knK [],fun t=>Nat.beq t 159,fun g=>Nat.beq g 67,qup,qlq⟩
theorem qzA:evF evK (evC evK 20000) 15 [exD] =some [qar 68,i64 0] :=by kernel_rfl
theorem qu3:evF evK (evC evK 20000) 38 [exD,ptD 3 3] =some [i64 0,.v (.bool true),i64 0] :=by kernel_rfl
theorem qvg:evF evK (evC evK 20000) 38 [exD,ptD 5 4] =some [i64 1,.v (.bool true),i64 0] :=by kernel_rfl
noncomputable def knL:List (FuncId×List D×List D):= [(26, [exD], [i64 0]),(15, [exD], [qar 68,i64 0]),(38, [exD,ptD 3 3], [i64 0,.v (.bool true),i64 0]),(38, [exD,ptD 5 4], [i64 1,.v (.bool true),i64 0])]
noncomputable def evL:Ev:=⟨Tryz.prog,tbl,Tryz.prog.funcs.toList,muE,qsj knL,fun t=>Nat.beq t 159,fun g=>false,qup,qlq⟩
theorem qAb:evF evL (evC evL 20000) 12 [] =some [.v (.bool true)] :=by kernel_rfl
end Go.Nv
end
section
namespace Go.Nv
open Go.Proofs Nw
theorem qEh:Fun Tryz.prog 67 [qtl,qlA,i64 1] [qar 12,i64 0] :=by
 refine qac (fun t=>t==6||t==8) mixed tOk Tryz.func67 rfl rfl ?_
 conv=>whnf
 refine qaa rfl rfl qEz ?_
 conv=>whnf
 refine qbp (by decide) ?_
 conv=>whnf
 refine qaa rfl rfl sumF ?_
 conv=>whnf
 refine ⟨?_, ?_,trivial⟩
 ·conv=>whnf
  exact ⟨rfl,rfl,rfl,trivial⟩
 ·conv=>whnf
end Go.Nv
end
section
namespace Go.Nv
open Go.Proofs Nw Go.RowKit
theorem qAh: ∀k∈knK,Fun Tryz.prog k.1 k.2.1 k.2.2:=List.forall_mem_cons.2 ⟨qDJ,List.forall_mem_cons.2 ⟨qEh,fun _ h=>absurd h (by simp)⟩⟩
theorem quK{n:Nat}{g:FuncId}{ds res:List D}(h:evF evK (evC evK n) g ds=some res):Fun Tryz.prog g ds (qbl (nlD 8) res):=
 qw0 rfl rfl rfl (fun g ds res h=>qin chA chB qAh (by simp) h) (qfq (E:=evK) tOk) h
theorem qyb: ∀k∈knL,Fun Tryz.prog k.1 k.2.1 k.2.2:=List.forall_mem_cons.2 ⟨qDJ,List.forall_mem_cons.2 ⟨quK qzA,List.forall_mem_cons.2 ⟨quK qu3,List.forall_mem_cons.2 ⟨quK qvg,fun _ h=>absurd h (by simp)⟩⟩⟩⟩
theorem quP:Fun Tryz.prog 12 [] [.v (.bool true)] :=
 qw0 (E:=evL) rfl rfl rfl (fun g ds res h=>qcc qyb h) (qfq (E:=evL) tOk) qAb
end Go.Nv
end
