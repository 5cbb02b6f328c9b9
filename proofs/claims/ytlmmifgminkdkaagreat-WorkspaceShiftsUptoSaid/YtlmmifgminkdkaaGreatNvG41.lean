import Derived.Test.YtlmmifgminkdkaaGreatNvG21
import Derived.Test.YtlmmifgminkdkaaGreatNvEvX7a1
import Derived.Test.YtlmmifgminkdkaaGreatNvEvX7b1
import Derived.Test.YtlmmifgminkdkaaGreatNvEvX7c1
import Derived.Test.YtlmmifgminkdkaaGreatNvEvX91
import Derived.Test.YtlmmifgminkdkaaGreatNvG31
import Derived.Test.YtlmmifgminkdkaaGreatNvG11
import Derived.Test.YtlmmifgminkdkaaGreatNvEvX2a1
set_option linter.all false
set_option maxRecDepth 100000
section
namespace Go.Nv
open Go.Proofs Nw Go.RowKit
theorem cnA: ∀c∈csL,cB c=true:=parts (by decide) fun j h=>match j,h with
 |0,_=>cn0
 |1,_=>cn1
 |2,_=>cn2
 |3,_=>cn3
 |4,_=>cn4
 |5,_=>cn5
 |6,_=>cn6
 |7,_=>cn7
 |8,_=>cn8
 |9,_=>cn9
 |10,_=>qGN
 |11,_=>qGe
 |n+12,h=>absurd h (by omega)
theorem arA: ∀c∈csL,arB c=true:=parts (by decide) fun j h=>match j,h with
 |0,_=>ar0
 |1,_=>ar1
 |2,_=>ar2
 |3,_=>ar3
 |4,_=>ar4
 |5,_=>ar5
 |6,_=>ar6
 |7,_=>ar7
 |8,_=>ar8
 |9,_=>ar9
 |10,_=>qFR
 |11,_=>qGC
 |n+12,h=>absurd h (by omega)
theorem mmA: ∀c∈csL,mB c=true:=parts (by decide) fun j h=>match j,h with
 |0,_=>mm0
 |1,_=>mm1
 |2,_=>mm2
 |3,_=>mm3
 |4,_=>mm4
 |5,_=>mm5
 |6,_=>mm6
 |7,_=>mm7
 |8,_=>mm8
 |9,_=>mm9
 |10,_=>qGj
 |11,_=>qFX
 |n+12,h=>absurd h (by omega)
theorem qzx: ∀(l:List Int),qbu (nlD 7) (l.map i64)=l.map i64
 | [] =>rfl
 |x::l=>by
  show nlD 7 (i64 x)::qbu (nlD 7) (l.map i64)=i64 x::l.map i64
  rw [qzx l];rfl
theorem cnF{c:CeT}(h:c∈csL):Fun Tryz.prog 260 [qtg,ceD c] [pD (lk3 c).1,i64 0] :=qdu (qt2 (cnA c h))
theorem arF{c:CeT}(h:c∈csL)(h3:c.1=3):Fun Tryz.prog 186 [qtg,ceD c] [qas (lk3 c).2.2,i64 0] :=by
 have:=arA c h
 unfold arB at this
 rw [h3] at this
 exact qdu (qt2 this)
theorem mmF{c:CeT}(h:c∈csL):Fun Tryz.prog 261 [qmm,pD (lk3 c).1] [.l ((lk3 c).2.1.map i64)] :=by
 have:=mmA c h
 unfold mB at this
 split at this
 ·rename_i p hp
  rw [<-qb6 8 _ _ this] at hp
  have:=qGA hp
  rw [show qbu (nlD 8) [D.l ((lk3 c).2.1.map i64)] = [.l (qbu (nlD 7) ((lk3 c).2.1.map i64))] from rfl,qzx] at this
  exact this
 ·simp at this
def bdq(q:Rat):Bool:=Nat.ble q.num.natAbs (256^3)&&Nat.ble q.den (256^3)
theorem qzt{q:Rat}(h:bdq q=true):Q q:=by
 unfold bdq at h
 rw [Bool.and_eq_true] at h
 exact .mk (n:=3) ⟨Nat.le_of_ble_eq_true h.1,Nat.le_of_ble_eq_true h.2⟩ (by omega)
def qFO(c:CeT):Bool:=decide (c.1=3)&&decide ((1:Int)<=(((lk3 c).2.1).length:Int))
theorem qzK:csL.all (fun c=>bdq (lk3 c).2.2)=true:=by kernel_rfl
theorem qAb:(List.range 72).all (fun i=>bdq (smS qFO (fun c=>(lk3 c).2.2) (csL.take i)))=true:=by kernel_rfl
theorem qDQ:smS qFO (fun c=>(lk3 c).2.2) csL=12:=by kernel_rfl
theorem qGo:Fun Tryz.prog 259 [qtg] [.l (csL.map ceD)] :=qdu cells_ok
theorem sumF:Fun Tryz.prog 133 [qtg,qmm,.f 134 [.p 0 [i64 1]]] [qas 12] :=by
 have h:=qE0 (cs:=csL) (n:=1) (cen:=fun c=>(lk3 c).1) (mem:=fun c=>(lk3 c).2.1) (ar:=fun c=>(lk3 c).2.2) (by decide) qGo (fun c hc=>cnF hc) (fun c hc=>mmF hc) (fun c hc=>arF hc)
  (fun c hc=>qzt (List.all_eq_true.1 qzK c hc)) (fun i hi=>qzt (List.all_eq_true.1 qAb i (List.mem_range.2 (Nat.lt_succ_of_le hi))))
 rw [show smS (fun c=>decide (c.1=3)&&decide ((1:Int)<=(((lk3 c).2.1).length:Int))) (fun c=>(lk3 c).2.2) csL=12 from qDQ] at h
 exact h
theorem qzE: ∀k∈knm,Fun Tryz.prog k.1 k.2.1 k.2.2:=List.forall_mem_cons.2 ⟨qdu qoo,List.forall_mem_cons.2 ⟨qdu qol,List.forall_mem_cons.2 ⟨qdu qok,List.forall_mem_cons.2 ⟨qdu qow,List.forall_mem_cons.2 ⟨qdu qon,List.forall_mem_cons.2 ⟨qdu qoY,List.forall_mem_cons.2 ⟨qdu qou,List.forall_mem_cons.2 ⟨qdu qop,List.forall_mem_cons.2 ⟨qdu qn6,List.forall_mem_cons.2 ⟨qdu qoe,List.forall_mem_cons.2 ⟨qdu qoC,List.forall_mem_cons.2 ⟨qdu qom,List.forall_mem_cons.2 ⟨qdu qo3,List.forall_mem_cons.2 ⟨qdu qn3,List.forall_mem_cons.2 ⟨qdu qoH,List.forall_mem_cons.2 ⟨qdu qo1,List.forall_mem_cons.2 ⟨qdu qn7,List.forall_mem_cons.2 ⟨qdu qoF,List.forall_mem_cons.2 ⟨qdu qoP,List.forall_mem_cons.2 ⟨qdu qov,List.forall_mem_cons.2 ⟨qdu qoU,fun _ h=>absurd h (by simp)⟩⟩⟩⟩⟩⟩⟩⟩⟩⟩⟩⟩⟩⟩⟩⟩⟩⟩⟩⟩⟩
theorem qEj:Fun Tryz.prog 254 [qgL] [xsE] :=qyf (E:=evm) rfl rfl rfl (fun g ds res h=>qcf qzE h) (qfs (E:=evm) tOk) qw6
theorem qy7: ∀k∈kn2,Fun Tryz.prog k.1 k.2.1 k.2.2:=List.forall_mem_cons.2 ⟨chA,List.forall_mem_cons.2 ⟨chB,List.forall_mem_cons.2 ⟨qdu qvk,List.forall_mem_cons.2 ⟨qEj,List.forall_mem_cons.2 ⟨qdu qwk,List.forall_mem_cons.2 ⟨qdu qxm,List.forall_mem_cons.2 ⟨qdu qx2,List.forall_mem_cons.2 ⟨qdu qxq,List.forall_mem_cons.2 ⟨qdu qxi,List.forall_mem_cons.2 ⟨qdu qwZ,List.forall_mem_cons.2 ⟨qdu qw2,List.forall_mem_cons.2 ⟨qdu qwc,List.forall_mem_cons.2 ⟨qdu qvI,List.forall_mem_cons.2 ⟨qdu qvt,List.forall_mem_cons.2 ⟨qdu qwH,fun _ h=>absurd h (by simp)⟩⟩⟩⟩⟩⟩⟩⟩⟩⟩⟩⟩⟩⟩⟩
theorem qGl:Fun Tryz.prog 132 [quM,qmm] [qtg,i64 0] :=qyf (E:=ev2) rfl rfl rfl (fun g ds res h=>qcf qy7 h) (qfs (E:=ev2) tOk) qyE
end Go.Nv
end
