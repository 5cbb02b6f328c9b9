import Derived.Test.YtlmmifgminkdkaaGreatNwA1
import Derived.Test.YtlmmifgminkdkaaGreatNwB1
set_option linter.all false
set_option maxRecDepth 100000
section
namespace Go.Nv
open Go.Proofs Nw Go.RowKit
noncomputable abbrev qDt:List D:= [qar 0,qar 10,qar 2,qar 4,qar 4,qar 4,qar 4,qar 4,qar 2,qar 4,qar 4,qar 4,qar 2,qar 2,qar 2,qar 2,qar 2,qar 2,qar 3,qar 9,qar 4,qar 4,qar 3,qar 9,qar 9,qar 9,qar 3,qar 3,qar 3,qar 3,qar 3,qar 3,qar 3,qar 3]
noncomputable abbrev qCz:List D:= [qar 0,qar 2,qar 3,qar 4,qar 9,qar 10]
theorem qw6:qxC ev1 (evC ev1 20000) 331 23 3 40 qDt [] =some qCz:=by kernel_rfl
theorem qCD:qjN Tryz.prog 331 23 3 [] qDt qCz:=qCC (by kernel_rfl) qw6
noncomputable def qBI(g:FuncId)(e:TypeId)(size:Nat)(ds xs:List D):Option {ys:List D//qjN Tryz.prog g e size ds xs ys}:=
 match h1:(Nat.beq g 331&&(Nat.beq e 23&&(Nat.beq size 3&&(qAq ds&&qsD (qlJ 8) qDt xs)))) with
 |true=>some ⟨qCz,by
    simp only [Bool.and_eq_true] at h1
    obtain ⟨a,b,c,d,f⟩:=h1
    have a:=Nat.eq_of_beq_eq_true a
    have b:=Nat.eq_of_beq_eq_true b
    have c:=Nat.eq_of_beq_eq_true c
    have d:ds= [] :=by cases ds with|nil=>rfl|cons=>simp [qAq] at d
    have f:=qha (qb1 8) f
    subst a;subst b;subst c;subst d;subst f
    exact qCD⟩
 |false=>qlq g e size ds xs
end Go.Nv
end
