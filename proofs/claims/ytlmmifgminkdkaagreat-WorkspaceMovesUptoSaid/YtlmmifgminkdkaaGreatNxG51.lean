import Derived.Test.YtlmmifgminkdkaaGreatNxA1
import Derived.Test.YtlmmifgminkdkaaGreatNxB1
import Derived.Test.YtlmmifgminkdkaaGreatNxG41
set_option linter.all false
set_option maxRecDepth 100000
section
namespace Go.Nv
open Go.Proofs Nw Go.RowKit
noncomputable def knK:List (FuncId×List D×List D):= [(26, [exD], [i64 0]),(67, [quC,qly,i64 1], [qas 12,i64 0])]
noncomputable def evK:Ev:=⟨Tryz.prog,tbl,Tryz.prog.funcs.toList,muE,qxQ knK [],fun t=>Nat.beq t 159,fun g=>Nat.beq g 67,qxF,qlK⟩
theorem qza:evF evK (evC evK 20000) 15 [exD] =some [qas 68,i64 0] :=by kernel_rfl
theorem qxb:evF evK (evC evK 20000) 38 [exD,ptD 3 3] =some [i64 0,.v (.bool true),i64 0] :=by kernel_rfl
theorem qvZ:evF evK (evC evK 20000) 38 [exD,ptD 5 4] =some [i64 1,.v (.bool true),i64 0] :=by kernel_rfl
noncomputable def knL:List (FuncId×List D×List D):= [(26, [exD], [i64 0]),(15, [exD], [qas 68,i64 0]),(38, [exD,ptD 3 3], [i64 0,.v (.bool true),i64 0]),(38, [exD,ptD 5 4], [i64 1,.v (.bool true),i64 0])]
noncomputable def evL:Ev:=⟨Tryz.prog,tbl,Tryz.prog.funcs.toList,muE,qta knL,fun t=>Nat.beq t 159,fun g=>false,qxF,qlK⟩
theorem qyd:evF evL (evC evL 20000) 12 [] =some [.v (.bool true)] :=by kernel_rfl
end Go.Nv
end
section
namespace Go.Nv
open Go.Proofs Nw
theorem qF1:Fun Tryz.prog 67 [quC,qly,i64 1] [qas 12,i64 0] :=by
 refine qad (fun t=>t==6||t==8) mixed tOk Tryz.func67 rfl rfl ?_
 conv=>whnf
 refine qaa rfl rfl qFi ?_
 conv=>whnf
 refine qa1 (by decide) ?_
 conv=>whnf
 refine qaa rfl rfl sumF ?_
 conv=>whnf
 refine ⟨?_, ?_,trivial⟩
 ·conv=>whnf
  exact ⟨rfl,rfl,rfl,trivial⟩
 ·conv=>whnf
end Go.Nv
end
section
namespace Go.Nv
open Go.Proofs Nw Go.RowKit
theorem qAg: ∀k∈knK,Fun Tryz.prog k.1 k.2.1 k.2.2:=List.forall_mem_cons.2 ⟨qEM,List.forall_mem_cons.2 ⟨qF1,fun _ h=>absurd h (by simp)⟩⟩
theorem qu7{n:Nat}{g:FuncId}{ds res:List D}(h:evF evK (evC evK n) g ds=some res):Fun Tryz.prog g ds (qbr (nlD 8) res):=
 qxM rfl rfl rfl (fun g ds res h=>qiy chA chB qAg (by simp) h) (qff (E:=evK) tOk) h
theorem qyk: ∀k∈knL,Fun Tryz.prog k.1 k.2.1 k.2.2:=List.forall_mem_cons.2 ⟨qEM,List.forall_mem_cons.2 ⟨qu7 qza,List.forall_mem_cons.2 ⟨qu7 qxb,List.forall_mem_cons.2 ⟨qu7 qvZ,fun _ h=>absurd h (by simp)⟩⟩⟩⟩
theorem qxn:Fun Tryz.prog 12 [] [.v (.bool true)] :=
 qxM (E:=evL) rfl rfl rfl (fun g ds res h=>qcj qyk h) (qff (E:=evL) tOk) qyd
end Go.Nv
end
