import Derived.Test.YtlmmifgminkdkaaGreatNvA1
import Derived.Test.YtlmmifgminkdkaaGreatNvB1
set_option linter.all false
set_option maxRecDepth 100000
section
namespace Go.Nv
open Go.Proofs Nw Go.RowKit
noncomputable abbrev qDA:List D:= [qas 0,qas 10,qas 2,qas 4,qas 4,qas 4,qas 4,qas 4,qas 2,qas 4,qas 4,qas 4,qas 2,qas 2,qas 2,qas 2,qas 2,qas 2,qas 3,qas 9,qas 4,qas 4,qas 3,qas 9,qas 9,qas 9,qas 3,qas 3,qas 3,qas 3,qas 3,qas 3,qas 3,qas 3]
noncomputable abbrev qCj:List D:= [qas 0,qas 2,qas 3,qas 4,qas 9,qas 10]
theorem qyx:qyG ev1 (evC ev1 20000) 331 23 3 40 qDA [] =some qCj:=by kernel_rfl
theorem qCZ:qna Tryz.prog 331 23 3 [] qDA qCj:=qCO (by kernel_rfl) qyx
noncomputable def qDV(g:FuncId)(e:TypeId)(size:Nat)(ds xs:List D):Option {ys:List D//qna Tryz.prog g e size ds xs ys}:=
 match h1:(Nat.beq g 331&&(Nat.beq e 23&&(Nat.beq size 3&&(qBX ds&&qts (qlY 8) qDA xs)))) with
 |true=>some ⟨qCj,by
    simp only [Bool.and_eq_true] at h1
    obtain ⟨a,b,c,d,f⟩:=h1
    have a:=Nat.eq_of_beq_eq_true a
    have b:=Nat.eq_of_beq_eq_true b
    have c:=Nat.eq_of_beq_eq_true c
    have d:ds= [] :=by cases ds with|nil=>rfl|cons=>simp [qBX] at d
    have f:=qhI (qb6 8) f
    subst a;subst b;subst c;subst d;subst f
    exact qCZ⟩
 |false=>qlF g e size ds xs
end Go.Nv
end
