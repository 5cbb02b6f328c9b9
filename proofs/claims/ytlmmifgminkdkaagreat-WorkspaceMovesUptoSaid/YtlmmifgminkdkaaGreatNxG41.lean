import Derived.Test.YtlmmifgminkdkaaGreatNxG21
import Derived.Test.YtlmmifgminkdkaaGreatNxEvX7a1
import Derived.Test.YtlmmifgminkdkaaGreatNxEvX7b1
import Derived.Test.YtlmmifgminkdkaaGreatNxEvX7c1
import Derived.Test.YtlmmifgminkdkaaGreatNxEvX91
import Derived.Test.YtlmmifgminkdkaaGreatNxG31
import Derived.Test.YtlmmifgminkdkaaGreatNxG11
import Derived.Test.YtlmmifgminkdkaaGreatNxEvX2a1
set_option linter.all false
set_option maxRecDepth 100000
section
namespace Go.Nv
open Go.Proofs Nw Go.RowKit
theorem cnA: ∀c∈csL,cB c=true:=parts (by decide) fun j h=>match j,h with
 |0,_=>cn0
 |1,_=>cn1
 |2,_=>cn2
 |3,_=>cn3
 |4,_=>cn4
 |5,_=>cn5
 |6,_=>cn6
 |7,_=>cn7
 |8,_=>cn8
 |9,_=>cn9
 |10,_=>qFI
 |11,_=>qFm
 |n+12,h=>absurd h (by omega)
theorem arA: ∀c∈csL,arB c=true:=parts (by decide) fun j h=>match j,h with
 |0,_=>ar0
 |1,_=>ar1
 |2,_=>ar2
 |3,_=>ar3
 |4,_=>ar4
 |5,_=>ar5
 |6,_=>ar6
 |7,_=>ar7
 |8,_=>ar8
 |9,_=>ar9
 |10,_=>qFY
 |11,_=>qFz
 |n+12,h=>absurd h (by omega)
theorem mmA: ∀c∈csL,mB c=true:=parts (by decide) fun j h=>match j,h with
 |0,_=>mm0
 |1,_=>mm1
 |2,_=>mm2
 |3,_=>mm3
 |4,_=>mm4
 |5,_=>mm5
 |6,_=>mm6
 |7,_=>mm7
 |8,_=>mm8
 |9,_=>mm9
 |10,_=>qFR
 |11,_=>qFl
 |n+12,h=>absurd h (by omega)
theorem qzt: ∀(l:List Int),qbr (nlD 7) (l.map i64)=l.map i64
 | [] =>rfl
 |x::l=>by
  show nlD 7 (i64 x)::qbr (nlD 7) (l.map i64)=i64 x::l.map i64
  rw [qzt l];rfl
theorem cnF{c:CeT}(h:c∈csL):Fun Tryz.prog 260 [qsN,ceD c] [pD (lk3 c).1,i64 0] :=qdm (quq (cnA c h))
theorem arF{c:CeT}(h:c∈csL)(h3:c.1=3):Fun Tryz.prog 186 [qsN,ceD c] [qas (lk3 c).2.2,i64 0] :=by
 have:=arA c h
 unfold arB at this
 rw [h3] at this
 exact qdm (quq this)
theorem mmF{c:CeT}(h:c∈csL):Fun Tryz.prog 261 [qly,pD (lk3 c).1] [.l ((lk3 c).2.1.map i64)] :=by
 have:=mmA c h
 unfold mB at this
 split at this
 ·rename_i p hp
  rw [<-qb6 8 _ _ this] at hp
  have:=qF9 hp
  rw [show qbr (nlD 8) [D.l ((lk3 c).2.1.map i64)] = [.l (qbr (nlD 7) ((lk3 c).2.1.map i64))] from rfl,qzt] at this
  exact this
 ·simp at this
def bdq(q:Rat):Bool:=Nat.ble q.num.natAbs (256^3)&&Nat.ble q.den (256^3)
theorem qA9{q:Rat}(h:bdq q=true):Q q:=by
 unfold bdq at h
 rw [Bool.and_eq_true] at h
 exact .mk (n:=3) ⟨Nat.le_of_ble_eq_true h.1,Nat.le_of_ble_eq_true h.2⟩ (by omega)
def qER(c:CeT):Bool:=decide (c.1=3)&&decide ((1:Int)<=(((lk3 c).2.1).length:Int))
theorem qAv:csL.all (fun c=>bdq (lk3 c).2.2)=true:=by kernel_rfl
theorem qAJ:(List.range 72).all (fun i=>bdq (smS qER (fun c=>(lk3 c).2.2) (csL.take i)))=true:=by kernel_rfl
theorem qDc:smS qER (fun c=>(lk3 c).2.2) csL=12:=by kernel_rfl
theorem qGc:Fun Tryz.prog 259 [qsN] [.l (csL.map ceD)] :=qdm cells_ok
theorem sumF:Fun Tryz.prog 133 [qsN,qly,.f 134 [.p 0 [i64 1]]] [qas 12] :=by
 have h:=qCI (cs:=csL) (n:=1) (cen:=fun c=>(lk3 c).1) (mem:=fun c=>(lk3 c).2.1) (ar:=fun c=>(lk3 c).2.2) (by decide) qGc (fun c hc=>cnF hc) (fun c hc=>mmF hc) (fun c hc=>arF hc)
  (fun c hc=>qA9 (List.all_eq_true.1 qAv c hc)) (fun i hi=>qA9 (List.all_eq_true.1 qAJ i (List.mem_range.2 (Nat.lt_succ_of_le hi))))
 rw [show smS (fun c=>decide (c.1=3)&&decide ((1:Int)<=(((lk3 c).2.1).length:Int))) (fun c=>(lk3 c).2.2) csL=12 from qDc] at h
 exact h
theorem qzu: ∀k∈knm,Fun Tryz.prog k.1 k.2.1 k.2.2:=List.forall_mem_cons.2 ⟨qdm qn9,List.forall_mem_cons.2 ⟨qdm qod,List.forall_mem_cons.2 ⟨qdm qoe,List.forall_mem_cons.2 ⟨qdm qnQ,List.forall_mem_cons.2 ⟨qdm qn2,List.forall_mem_cons.2 ⟨qdm qnN,List.forall_mem_cons.2 ⟨qdm qoF,List.forall_mem_cons.2 ⟨qdm qon,List.forall_mem_cons.2 ⟨qdm qnR,List.forall_mem_cons.2 ⟨qdm qnX,List.forall_mem_cons.2 ⟨qdm qnU,List.forall_mem_cons.2 ⟨qdm qoG,List.forall_mem_cons.2 ⟨qdm qnL,List.forall_mem_cons.2 ⟨qdm qn0,List.forall_mem_cons.2 ⟨qdm qoh,List.forall_mem_cons.2 ⟨qdm qn3,List.forall_mem_cons.2 ⟨qdm qn6,List.forall_mem_cons.2 ⟨qdm qot,List.forall_mem_cons.2 ⟨qdm qoc,List.forall_mem_cons.2 ⟨qdm qoE,List.forall_mem_cons.2 ⟨qdm qnM,fun _ h=>absurd h (by simp)⟩⟩⟩⟩⟩⟩⟩⟩⟩⟩⟩⟩⟩⟩⟩⟩⟩⟩⟩⟩⟩
theorem qDa:Fun Tryz.prog 254 [qgE] [xsE] :=qxM (E:=evm) rfl rfl rfl (fun g ds res h=>qcj qzu h) (qff (E:=evm) tOk) qwW
theorem qzC: ∀k∈kn2,Fun Tryz.prog k.1 k.2.1 k.2.2:=List.forall_mem_cons.2 ⟨chA,List.forall_mem_cons.2 ⟨chB,List.forall_mem_cons.2 ⟨qdm quZ,List.forall_mem_cons.2 ⟨qDa,List.forall_mem_cons.2 ⟨qdm qvn,List.forall_mem_cons.2 ⟨qdm qxg,List.forall_mem_cons.2 ⟨qdm qwj,List.forall_mem_cons.2 ⟨qdm qvh,List.forall_mem_cons.2 ⟨qdm qwU,List.forall_mem_cons.2 ⟨qdm qxD,List.forall_mem_cons.2 ⟨qdm qvM,List.forall_mem_cons.2 ⟨qdm qxv,List.forall_mem_cons.2 ⟨qdm qvR,List.forall_mem_cons.2 ⟨qdm qw4,List.forall_mem_cons.2 ⟨qdm qwl,fun _ h=>absurd h (by simp)⟩⟩⟩⟩⟩⟩⟩⟩⟩⟩⟩⟩⟩⟩⟩
theorem qFi:Fun Tryz.prog 132 [quC,qly] [qsN,i64 0] :=qxM (E:=ev2) rfl rfl rfl (fun g ds res h=>qcj qzC h) (qff (E:=ev2) tOk) qAR
end Go.Nv
end
