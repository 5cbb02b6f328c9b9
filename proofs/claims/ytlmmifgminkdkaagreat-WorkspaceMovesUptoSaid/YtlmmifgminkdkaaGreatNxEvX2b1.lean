import Derived.Test.YtlmmifgminkdkaaGreatNxA1
import Derived.Test.YtlmmifgminkdkaaGreatNxB1
set_option linter.all false
set_option maxRecDepth 100000
section
namespace Go.Nv
open Go.Proofs Nw Go.RowKit
noncomputable abbrev qB4:List D:= [qas 0,qas 10,qas 2,qas 4,qas 4,qas 4,qas 4,qas 4,qas 2,qas 4,qas 4,qas 4,qas 2,qas 2,qas 2,qas 2,qas 2,qas 2,qas 3,qas 9,qas 4,qas 4,qas 3,qas 9,qas 9,qas 9,qas 3,qas 3,qas 3,qas 3,qas 3,qas 3,qas 3,qas 3]
noncomputable abbrev qDL:List D:= [qas 0,qas 2,qas 3,qas 4,qas 9,qas 10]
theorem qyY:qx0 ev1 (evC ev1 20000) 331 23 3 40 qB4 [] =some qDL:=by kernel_rfl
theorem qEc:qnt Tryz.prog 331 23 3 [] qB4 qDL:=qDK (by kernel_rfl) qyY
noncomputable def qDy(g:FuncId)(e:TypeId)(size:Nat)(ds xs:List D):Option {ys:List D//qnt Tryz.prog g e size ds xs ys}:=
 match h1:(Nat.beq g 331&&(Nat.beq e 23&&(Nat.beq size 3&&(qBz ds&&qsD (qmk 8) qB4 xs)))) with
 |true=>some ⟨qDL,by
    simp only [Bool.and_eq_true] at h1
    obtain ⟨a,b,c,d,f⟩:=h1
    have a:=Nat.eq_of_beq_eq_true a
    have b:=Nat.eq_of_beq_eq_true b
    have c:=Nat.eq_of_beq_eq_true c
    have d:ds= [] :=by cases ds with|nil=>rfl|cons=>simp [qBz] at d
    have f:=qhD (qb6 8) f
    subst a;subst b;subst c;subst d;subst f
    exact qEc⟩
 |false=>qlK g e size ds xs
end Go.Nv
end
