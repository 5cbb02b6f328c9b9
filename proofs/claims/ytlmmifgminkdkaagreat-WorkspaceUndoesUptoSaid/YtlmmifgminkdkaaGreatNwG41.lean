import Derived.Test.YtlmmifgminkdkaaGreatNwG21
import Derived.Test.YtlmmifgminkdkaaGreatNwEvX7a1
import Derived.Test.YtlmmifgminkdkaaGreatNwEvX7b1
import Derived.Test.YtlmmifgminkdkaaGreatNwEvX7c1
import Derived.Test.YtlmmifgminkdkaaGreatNwEvX91
import Derived.Test.YtlmmifgminkdkaaGreatNwG31
import Derived.Test.YtlmmifgminkdkaaGreatNwG11
import Derived.Test.YtlmmifgminkdkaaGreatNwEvX2a1
set_option linter.all false
set_option maxRecDepth 100000
section
namespace Go.Nv
open Go.Proofs Nw Go.RowKit
theorem cnA: ∀c∈csL,cB c=true:=parts (by decide) fun j h=>match j,h with
 |0,_=>cn0
 |1,_=>cn1
 |2,_=>cn2
 |3,_=>cn3
 |4,_=>cn4
 |5,_=>cn5
 |6,_=>cn6
 |7,_=>cn7
 |8,_=>cn8
 |9,_=>cn9
 |10,_=>qEq
 |11,_=>qEl
 |n+12,h=>absurd h (by omega)
theorem arA: ∀c∈csL,arB c=true:=parts (by decide) fun j h=>match j,h with
 |0,_=>ar0
 |1,_=>ar1
 |2,_=>ar2
 |3,_=>ar3
 |4,_=>ar4
 |5,_=>ar5
 |6,_=>ar6
 |7,_=>ar7
 |8,_=>ar8
 |9,_=>ar9
 |10,_=>qE8
 |11,_=>qEe
 |n+12,h=>absurd h (by omega)
theorem mmA: ∀c∈csL,mB c=true:=parts (by decide) fun j h=>match j,h with
 |0,_=>mm0
 |1,_=>mm1
 |2,_=>mm2
 |3,_=>mm3
 |4,_=>mm4
 |5,_=>mm5
 |6,_=>mm6
 |7,_=>mm7
 |8,_=>mm8
 |9,_=>mm9
 |10,_=>qEy
 |11,_=>qFa
 |n+12,h=>absurd h (by omega)
theorem qxE: ∀(l:List Int),qbl (nlD 7) (l.map i64)=l.map i64
 | [] =>rfl
 |x::l=>by
  show nlD 7 (i64 x)::qbl (nlD 7) (l.map i64)=i64 x::l.map i64
  rw [qxE l];rfl
theorem cnF{c:CeT}(h:c∈csL):Fun Tryz.prog 260 [qsx,ceD c] [pD (lk3 c).1,i64 0] :=qda (qs7 (cnA c h))
theorem arF{c:CeT}(h:c∈csL)(h3:c.1=3):Fun Tryz.prog 186 [qsx,ceD c] [qar (lk3 c).2.2,i64 0] :=by
 have:=arA c h
 unfold arB at this
 rw [h3] at this
 exact qda (qs7 this)
theorem mmF{c:CeT}(h:c∈csL):Fun Tryz.prog 261 [qlA,pD (lk3 c).1] [.l ((lk3 c).2.1.map i64)] :=by
 have:=mmA c h
 unfold mB at this
 split at this
 ·rename_i p hp
  rw [<-qb1 8 _ _ this] at hp
  have:=qEi hp
  rw [show qbl (nlD 8) [D.l ((lk3 c).2.1.map i64)] = [.l (qbl (nlD 7) ((lk3 c).2.1.map i64))] from rfl,qxE] at this
  exact this
 ·simp at this
def bdq(q:Rat):Bool:=Nat.ble q.num.natAbs (256^3)&&Nat.ble q.den (256^3)
theorem qxj{q:Rat}(h:bdq q=true):Q q:=by
 unfold bdq at h
 rw [Bool.and_eq_true] at h
 exact .mk (n:=3) ⟨Nat.le_of_ble_eq_true h.1,Nat.le_of_ble_eq_true h.2⟩ (by omega)
def qD0(c:CeT):Bool:=decide (c.1=3)&&decide ((1:Int)<=(((lk3 c).2.1).length:Int))
theorem qxr:csL.all (fun c=>bdq (lk3 c).2.2)=true:=by kernel_rfl
theorem qxv:(List.range 72).all (fun i=>bdq (smS qD0 (fun c=>(lk3 c).2.2) (csL.take i)))=true:=by kernel_rfl
theorem qC5:smS qD0 (fun c=>(lk3 c).2.2) csL=12:=by kernel_rfl
theorem qEf:Fun Tryz.prog 259 [qsx] [.l (csL.map ceD)] :=qda cells_ok
theorem sumF:Fun Tryz.prog 133 [qsx,qlA,.f 134 [.p 0 [i64 1]]] [qar 12] :=by
 have h:=qC6 (cs:=csL) (n:=1) (cen:=fun c=>(lk3 c).1) (mem:=fun c=>(lk3 c).2.1) (ar:=fun c=>(lk3 c).2.2) (by decide) qEf (fun c hc=>cnF hc) (fun c hc=>mmF hc) (fun c hc=>arF hc)
  (fun c hc=>qxj (List.all_eq_true.1 qxr c hc)) (fun i hi=>qxj (List.all_eq_true.1 qxv i (List.mem_range.2 (Nat.lt_succ_of_le hi))))
 rw [show smS (fun c=>decide (c.1=3)&&decide ((1:Int)<=(((lk3 c).2.1).length:Int))) (fun c=>(lk3 c).2.2) csL=12 from qC5] at h
 exact h
theorem qyP: ∀k∈knm,Fun Tryz.prog k.1 k.2.1 k.2.2:=List.forall_mem_cons.2 ⟨qda qn6,List.forall_mem_cons.2 ⟨qda qno,List.forall_mem_cons.2 ⟨qda qnm,List.forall_mem_cons.2 ⟨qda qnx,List.forall_mem_cons.2 ⟨qda qn7,List.forall_mem_cons.2 ⟨qda qn8,List.forall_mem_cons.2 ⟨qda qn0,List.forall_mem_cons.2 ⟨qda qod,List.forall_mem_cons.2 ⟨qda qnO,List.forall_mem_cons.2 ⟨qda qnI,List.forall_mem_cons.2 ⟨qda qnY,List.forall_mem_cons.2 ⟨qda qof,List.forall_mem_cons.2 ⟨qda qnE,List.forall_mem_cons.2 ⟨qda qnU,List.forall_mem_cons.2 ⟨qda qnA,List.forall_mem_cons.2 ⟨qda qn4,List.forall_mem_cons.2 ⟨qda qnp,List.forall_mem_cons.2 ⟨qda qnn,List.forall_mem_cons.2 ⟨qda qny,List.forall_mem_cons.2 ⟨qda qnR,List.forall_mem_cons.2 ⟨qda qnw,fun _ h=>absurd h (by simp)⟩⟩⟩⟩⟩⟩⟩⟩⟩⟩⟩⟩⟩⟩⟩⟩⟩⟩⟩⟩⟩
theorem qBS:Fun Tryz.prog 254 [qgy] [xsE] :=qw0 (E:=evm) rfl rfl rfl (fun g ds res h=>qcc qyP h) (qfq (E:=evm) tOk) qv6
theorem qxF: ∀k∈kn2,Fun Tryz.prog k.1 k.2.1 k.2.2:=List.forall_mem_cons.2 ⟨chA,List.forall_mem_cons.2 ⟨chB,List.forall_mem_cons.2 ⟨qda qu1,List.forall_mem_cons.2 ⟨qBS,List.forall_mem_cons.2 ⟨qda qu0,List.forall_mem_cons.2 ⟨qda qvG,List.forall_mem_cons.2 ⟨qda quf,List.forall_mem_cons.2 ⟨qda qv9,List.forall_mem_cons.2 ⟨qda qur,List.forall_mem_cons.2 ⟨qda qvq,List.forall_mem_cons.2 ⟨qda qwF,List.forall_mem_cons.2 ⟨qda qvA,List.forall_mem_cons.2 ⟨qda quF,List.forall_mem_cons.2 ⟨qda qv4,List.forall_mem_cons.2 ⟨qda qwj,fun _ h=>absurd h (by simp)⟩⟩⟩⟩⟩⟩⟩⟩⟩⟩⟩⟩⟩⟩⟩
theorem qEz:Fun Tryz.prog 132 [qtl,qlA] [qsx,i64 0] :=qw0 (E:=ev2) rfl rfl rfl (fun g ds res h=>qcc qxF h) (qfq (E:=ev2) tOk) qyo
end Go.Nv
end
