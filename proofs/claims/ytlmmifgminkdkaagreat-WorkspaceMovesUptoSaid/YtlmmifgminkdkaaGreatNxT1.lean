import Derived.KernelRfl
import Derived.Test.YtlmmifgminkdkaaGreatProg
import Derived.Test.YtlmmifgminkdkaaGreatNxN4
set_option linter.all false
set_option maxRecDepth 100000
section
namespace Go.Nv
open Go.Proofs
theorem mixed:Tryz.prog.follows .mixedOrders=true:=by kernel_rfl
def qmb(P:Program)(e:TypeId)(size bytes:Nat):Bool:=
 match P.info? e with
 |some i=>match i.zero with|some z=>i.size==size&&i.bytes==bytes&&z.cells.size==size|none=>false
 |none=>false
theorem qhk{P:Program}{e:TypeId}{size bytes:Nat}(h:qmb P e size bytes=true):qd8 P e size bytes:=by
 unfold qmb at h
 split at h
 ·rename_i i hi
  split at h
  ·rename_i z hz
   simp only [Bool.and_eq_true,beq_iff_eq] at h
   exact ⟨i,z,hi,hz,h.1.1,h.1.2,h.2⟩
  ·simp at h
 ·simp at h
def qjT(P:Program)(t:TypeId)(fs:List (Nat×TypeId)):Bool:=
 match P.underlying t with
 |some (.struct l)=>decide (l.toList.map (fun x=>(x.offset,x.type))=fs)
 |_=>false
theorem fields_of{P:Program}{t:TypeId}{fs:List (Nat×TypeId)}(h:qjT P t fs=true)(f:Nat):qbZ P t f=fs[f]? :=by
 unfold qjT at h
 unfold qbZ
 split at h
 ·rename_i l hl
  simp only [decide_eq_true_eq] at h
  rw [hl, <-h]
  simp [List.getElem?_map]
 ·simp at h
abbrev zS:D:= .v (.string {data:={toList:= [] }})
abbrev zB:D:= .v (.bool false)
abbrev zI:D:= .v (.int .i64 (0))
def qtS(P:Program)(t:TypeId):Bool:=match P.underlying t with|some .string=>true|_=>false
def quH(P:Program)(t:TypeId):Bool:=match P.underlying t with|some .bool=>true|_=>false
def qEO(P:Program)(t:TypeId):List (Nat×TypeId):=match P.underlying t with|some (.struct l)=>l.toList.map (fun x=>(x.offset,x.type))|_=> []
def qzN(P:Program)(t:TypeId):Bool:=match P.underlying t with|some (.struct _)=>true|_=>false
def fill(P:Program)(t:TypeId)(i:TI):TI:=
 ⟨if (P.underlying t).isSome then P.cellsOf t else i.cells+1,P.bytesOf t,qaD P t,i.str&&qtS P t,i.boo&&quH P t,
  match i.ik with|none=>none|some _=>qdw P t,match i.elem with|none=>none|some _=>qbv P t,
  match i.fields with| [] => [] |x::xs=>if qzN P t then qEO P t else (x::x::xs),
  match i.zero with|none=>none|some _=>zeroCells P t,match i.plcs with|none=>none|some _=>plcs P t,
  i.eok&&qmb P t i.cells i.bytes,
  match i.eqk with|none=>none|some _=>if qaD P t&& !P.eqGuardType P.depth t then qgp P 20 t else none,
  match i.arr with|none=>none|some _=>qoV P t⟩
theorem qy9{P:Program}{t:TypeId}{i:TI}(h:fill P t i=i):qr3 P t i:=by
 have c:=congrArg TI.cells h
 have hu:(P.underlying t).isSome=true:=by
  simp only [fill] at c
  split at c
  ·assumption
  ·omega
 refine ⟨hu, ?_,congrArg TI.bytes h,congrArg TI.agg h,fun e=> ?_,fun e=> ?_, ?_, ?_, ?_, ?_, ?_,fun e=> ?_,fun ks e=> ?_, ?_⟩
 ·simp only [fill,hu,if_true] at c;exact c
 ·have:=congrArg TI.str h
  simp only [fill,e,Bool.true_and,qtS] at this
  split at this
  ·assumption
  ·simp at this
 ·have:=congrArg TI.boo h
  simp only [fill,e,Bool.true_and,quH] at this
  split at this
  ·assumption
  ·simp at this
 ·have:=congrArg TI.ik h
  simp only [fill] at this
  cases hk:i.ik with
  |none=>exact .inl rfl
  |some x=>rw [hk] at this;exact .inr this
 ·have:=congrArg TI.elem h
  simp only [fill] at this
  cases hk:i.elem with
  |none=>exact .inl rfl
  |some x=>rw [hk] at this;exact .inr this
 ·have:=congrArg TI.fields h
  simp only [fill] at this
  cases hk:i.fields with
  |nil=>exact .inl rfl
  |cons x xs=>
   rw [hk] at this
   simp only at this
   split at this
   ·rename_i hs
    refine .inr (fields_of ?_)
    unfold qzN at hs
    unfold qEO at this
    unfold qjT
    split at hs
    ·rename_i l hl;rw [hl] at this;exact decide_eq_true this
    ·simp at hs
   ·exact absurd (congrArg List.length this) (by simp)
 ·have:=congrArg TI.zero h
  simp only [fill] at this
  cases hk:i.zero with
  |none=>exact .inl rfl
  |some x=>rw [hk] at this;exact .inr this
 ·have:=congrArg TI.plcs h
  simp only [fill] at this
  cases hk:i.plcs with
  |none=>exact .inl rfl
  |some x=>rw [hk] at this;exact .inr this
 ·have:=congrArg TI.eok h
  simp only [fill,e,Bool.true_and] at this
  exact qhk this
 ·have:=congrArg TI.eqk h
  simp only [fill,e] at this
  split at this
  ·rename_i hc
   simp only [Bool.and_eq_true,Bool.not_eq_true'] at hc
   exact qlm this hc.1 hc.2
  ·simp at this
 ·have:=congrArg TI.arr h
  simp only [fill] at this
  cases hk:i.arr with
  |none=>exact .inl rfl
  |some x=>rw [hk] at this;exact .inr this
def qbA(P:Program):TypeId->List (Option TI)->List (Option TI)
 |_, [] => []
 |t,none::l=>none::qbA P (t+1) l
 |t,some i::l=>some (fill P t i)::qbA P (t+1) l
theorem qjJ{P:Program}: ∀{l:List (Option TI)} {t:TypeId},qbA P t l=l-> ∀(j:Nat) (i:TI),l[j]? =some (some i)->qr3 P (t+j) i
 |none::l,t,h,0,i,e=>by simp at e
 |some k::l,t,h,0,i,e=>by
  simp at e;subst e
  simp only [qbA,List.cons.injEq,Option.some.injEq] at h
  exact qy9 h.1
 |none::l,t,h,j+1,i,e=>by
  simp only [qbA,List.cons.injEq,true_and] at h
  have:=qjJ h j i (by simpa using e)
  have e':t+1+j=t+(j+1):=(Nat.add_right_comm t j 1).symm
  exact e'▸this
 |some k::l,t,h,j+1,i,e=>by
  simp only [qbA,List.cons.injEq] at h
  have:=qjJ h.2 j i (by simpa using e)
  have e':t+1+j=t+(j+1):=(Nat.add_right_comm t j 1).symm
  exact e'▸this
def qBf(P:Program):Nat->Tb->Prop
 |_, [] =>True
 |k,r::rs=>(qbA P (16*k) r=r/\r.length<=16)/\qBf P (k+1) rs
theorem qog{T:Tb}{t:TypeId}{i:TI}(h:qhO T t=some i): ∃l,T[t/16]? =some l/\l[t%16]? =some (some i):=by
 unfold qhO at h
 rw [qb7] at h
 split at h
 ·rename_i l hl
  rw [qb7] at h
  split at h
  ·rename_i j hj;exact ⟨l,hl,by rw [hj,h]⟩
  ·simp at h
 ·simp at h
theorem qxt{P:Program}: ∀(T:Tb) (k:Nat),qBf P k T-> ∀(a b:Nat) (l:List (Option TI)) (i:TI),T[a]? =some l->l[b]? =some (some i)->qr3 P (16*(k+a)+b) i:=by
 intro T
 induction T with
 |nil=>intro k h a b l i e1;simp at e1
 |cons r rs ih=>
  intro k h a b l i e1 e2
  unfold qBf at h
  cases a with
  |zero=>
   have hr:r=l:=Option.some.inj e1
   rw [<-hr] at e2
   have:=qjJ h.1.1 b i e2
   exact this
  |succ a=>
   have:=ih (k+1) h.2 a b l i e1 e2
   have e':16*(k+1+a)+b=16*(k+(a+1))+b:=by rw [Nat.add_right_comm k 1 a];rfl
   exact e'▸this
theorem qwc{P:Program}{T:Tb}(h:qBf P 0 T):qcG P T:=by
 intro t i h'
 obtain ⟨l,h1,h2⟩:=qog h'
 have:=qxt T 0 h (t/16) (t%16) l i h1 h2
 have e':16*(0+t/16)+t%16=t:=by rw [Nat.zero_add];exact Nat.div_add_mod t 16
 exact e'▸this
def ti0:TI:=⟨1,0,false,false,false,none,none, [],none,none,false,none,none⟩
def ti3:TI:=⟨1,8,false,false,false,some .i64,none, [],some [zI],none,true,none,none⟩
def ti4:TI:=⟨1,1,false,false,true,none,none, [],some [zB],none,false,none,none⟩
def ti5:TI:=⟨1,1,false,false,false,some .u8,none, [],some [D.v (Value.int IntKind.u8 (0))],none,true,none,none⟩
def ti9:TI:=⟨1,16,false,true,false,none,none, [],some [zS],none,false,none,none⟩
def qFy:TI:=⟨1,16,false,false,false,none,none, [],some [D.v Value.nilIface],none,false,none,none⟩
def qDi:TI:=⟨3,40,true,false,false,none,none, [(0,4),(1,9),(2,9)],some [zB,zS,zS],some [(0,1),(1,1),(2,1)],true,some [1,2,2],none⟩
def qwL:TI:=⟨6,80,true,false,false,none,none, [(0,23),(3,23)],some [zB,zS,zS,zB,zS,zS],some [(0,3),(3,3)],true,some [1,2,2,1,2,2],none⟩
def qFE:TI:=⟨12,160,true,false,false,none,none, [(0,25),(6,25)],some [zB,zS,zS,zB,zS,zS,zB,zS,zS,zB,zS,zS],some [(0,6),(6,6)],false,some [1,2,2,1,2,2,1,2,2,1,2,2],none⟩
def qFT:TI:=⟨1,24,false,false,false,none,some 45, [],some [D.v (Value.slice none 0 0)],none,false,none,none⟩
def qFn:TI:=⟨13,184,true,false,false,none,none, [(0,27),(12,28)],some [zB,zS,zS,zB,zS,zS,zB,zS,zS,zB,zS,zS,D.v (Value.slice none 0 0)],some [(0,12),(12,1)],false,none,none⟩
def qFN:TI:=⟨1,8,false,false,false,none,none, [],some [D.v Value.nilFunc],none,false,none,none⟩
def qFf:TI:=⟨1,8,false,false,false,none,none, [],some [D.v Value.nilFunc],none,false,none,none⟩
def qFX:TI:=⟨1,8,false,false,false,some .i64,none, [],some [zI],none,false,none,none⟩
def qFt:TI:=⟨1,0,false,false,false,none,none, [],none,none,false,none,none⟩
def qFK:TI:=⟨1,8,false,false,false,none,none, [],some [D.v Value.nilFunc],none,false,none,none⟩
def qFb:TI:=⟨1,24,false,false,false,none,some 25, [],some [D.v (Value.slice none 0 0)],none,true,none,none⟩
def qFr:TI:=⟨1,24,false,false,false,none,some 40, [],some [D.v (Value.slice none 0 0)],none,false,none,none⟩
def qFL:TI:=⟨2,48,true,false,false,none,none, [(0,40),(1,41)],some [D.v (Value.slice none 0 0),D.v (Value.slice none 0 0)],some [(0,1),(1,1)],true,none,none⟩
def qFc:TI:=⟨3,64,true,false,false,none,none, [(0,9),(1,43)],some [zS,D.v (Value.slice none 0 0),D.v (Value.slice none 0 0)],some [(0,1),(1,2)],true,none,none⟩
def qFd:TI:=⟨1,8,false,false,false,none,none, [],some [D.v Value.nilFunc],none,false,none,none⟩
def qFo:TI:=⟨1,24,false,false,false,none,some 43, [],some [D.v (Value.slice none 0 0)],none,false,none,none⟩
def qFu:TI:=⟨1,0,false,false,false,none,none, [],none,none,false,none,none⟩
def qFv:TI:=⟨1,0,false,false,false,none,none, [],none,none,false,none,none⟩
def qFe:TI:=⟨1,0,false,false,false,none,none, [],none,none,false,none,none⟩
def qFP:TI:=⟨1,0,false,false,false,none,none, [],none,none,false,none,none⟩
def qFS:TI:=⟨1,24,false,false,false,none,some 23, [],some [D.v (Value.slice none 0 0)],none,true,none,none⟩
def qFZ:TI:=⟨1,24,false,false,false,none,some 3, [],some [D.v (Value.slice none 0 0)],none,true,none,none⟩
def qGa:TI:=⟨1,0,false,false,false,none,none, [],none,none,false,none,none⟩
def qFg:TI:=⟨1,0,false,false,false,none,none, [],none,none,false,none,none⟩
def qFC:TI:=⟨1,8,false,false,false,none,none, [],some [D.v Value.nilFunc],none,false,none,none⟩
def qFV:TI:=⟨2,24,true,false,false,none,none, [(0,4),(1,9)],some [zB,zS],some [(0,1),(1,1)],false,some [1,2],none⟩
def qFD:TI:=⟨4,48,true,false,false,none,none, [(0,96),(2,96)],some [zB,zS,zB,zS],some [(0,2),(2,2)],false,some [1,2,1,2],none⟩
def qCz:TI:=⟨1,8,false,false,false,none,none, [],some [D.v Value.nilFunc],none,false,none,none⟩
def qCp:TI:=⟨1,8,false,false,false,none,none, [],some [D.v Value.nilFunc],none,false,none,none⟩
def qCm:TI:=⟨1,8,false,false,false,none,none, [],some [D.v Value.nilFunc],none,false,none,none⟩
def qCj:TI:=⟨1,8,false,false,false,none,none, [],some [D.v Value.nilFunc],none,false,none,none⟩
def qCq:TI:=⟨1,8,false,false,false,none,none, [],some [D.v Value.nilFunc],none,false,none,none⟩
def qDQ:TI:=⟨1,8,false,false,false,none,none, [],some [D.v Value.nilFunc],none,false,none,none⟩
def qCo:TI:=⟨1,8,false,false,false,none,none, [],some [D.v Value.nilFunc],none,false,none,none⟩
def qBC:TI:=⟨1,8,false,false,false,none,none, [],some [D.v Value.nilFunc],none,false,none,none⟩
def qCE:TI:=⟨1,8,false,false,false,none,none, [],some [D.v Value.nilFunc],none,false,none,none⟩
def qBO:TI:=⟨1,8,false,false,false,none,none, [],some [D.v Value.nilFunc],none,false,none,none⟩
def qEi:TI:=⟨1,0,false,false,false,none,none, [],none,none,false,none,none⟩
def qBG:TI:=⟨1,24,false,false,false,none,some 192, [],some [D.v (Value.slice none 0 0)],none,false,none,none⟩
def qCb:TI:=⟨1,0,false,false,false,none,none, [],none,none,false,none,none⟩
def qB5:TI:=⟨1,24,false,false,false,none,some 214, [],some [D.v (Value.slice none 0 0)],none,false,none,none⟩
def qB1:TI:=⟨1,24,false,false,false,none,some 78, [],some [D.v (Value.slice none 0 0)],none,false,none,none⟩
def qC7:TI:=⟨1,24,false,false,false,none,some 79, [],some [D.v (Value.slice none 0 0)],none,false,none,none⟩
def qCP:TI:=⟨16,256,true,false,false,none,none, [(0,27),(12,155),(13,78),(14,156),(15,157)],some [zB,zS,zS,zB,zS,zS,zB,zS,zS,zB,zS,zS,D.v (Value.slice none 0 0),D.v (Value.slice none 0 0),D.v (Value.slice none 0 0),D.v (Value.slice none 0 0)],some [(0,12),(12,1),(13,1),(14,1),(15,1)],false,none,none⟩
def qBK:TI:=⟨1,0,false,false,false,none,none, [],none,none,false,none,none⟩
def qCD:TI:=⟨1,8,false,false,false,none,none, [],some [D.v Value.nilFunc],none,false,none,none⟩
def qB8:TI:=⟨1,8,false,false,false,none,none, [],some [D.v Value.nilFunc],none,false,none,none⟩
def qDx:TI:=⟨1,24,false,false,false,none,some 175, [],some [D.v (Value.slice none 0 0)],none,false,none,none⟩
def qBV:TI:=⟨3,24,true,false,false,none,none, [(0,3),(1,3),(2,3)],some [zI,zI,zI],some [(0,1),(1,1),(2,1)],true,some [6,6,6],none⟩
def qB2:TI:=⟨1,0,false,false,false,none,none, [],none,none,false,none,none⟩
def qCA:TI:=⟨1,8,false,false,false,none,none, [],some [D.v Value.nilFunc],none,false,none,none⟩
def qDd:TI:=⟨1,8,false,false,false,none,none, [],some [D.v Value.nilFunc],none,false,none,none⟩
def qBW:TI:=⟨1,8,false,false,false,none,none, [],some [D.v Value.nilFunc],none,false,none,none⟩
def qD9:TI:=⟨1,8,false,false,false,some .u64,none, [],some [D.v (Value.int IntKind.u64 (0))],none,false,none,none⟩
def qB3:TI:=⟨1,4,false,false,false,some .u32,none, [],some [D.v (Value.int IntKind.u32 (0))],none,true,none,none⟩
def qC8:TI:=⟨1,8,false,false,false,some .u64,none, [],some [D.v (Value.int IntKind.u64 (0))],none,false,none,none⟩
def qC5:TI:=⟨8,8,true,false,false,none,none, [],some [D.v (Value.int IntKind.u8 (0)),D.v (Value.int IntKind.u8 (0)),D.v (Value.int IntKind.u8 (0)),D.v (Value.int IntKind.u8 (0)),D.v (Value.int IntKind.u8 (0)),D.v (Value.int IntKind.u8 (0)),D.v (Value.int IntKind.u8 (0)),D.v (Value.int IntKind.u8 (0))],some [(0,1),(1,1),(2,1),(3,1),(4,1),(5,1),(6,1),(7,1)],false,none,some (8,5)⟩
def qCQ:TI:=⟨1,24,false,false,false,none,some 5, [],some [D.v (Value.slice none 0 0)],none,false,none,none⟩
def qD4:TI:=⟨1,0,false,false,false,none,none, [],none,none,false,none,none⟩
def qCM:TI:=⟨1,0,false,false,false,none,none, [],none,none,false,none,none⟩
def qCK:TI:=⟨1,8,false,false,false,none,none, [],some [D.v Value.nilFunc],none,false,none,none⟩
def qCY:TI:=⟨1,8,false,false,false,none,none, [],some [D.v Value.nilFunc],none,false,none,none⟩
def qEj:TI:=⟨1,8,false,false,false,none,none, [],some [D.v Value.nilFunc],none,false,none,none⟩
def qEh:TI:=⟨12,160,true,false,false,none,none, [(0,25),(6,25)],some [zB,zS,zS,zB,zS,zS,zB,zS,zS,zB,zS,zS],some [(0,6),(6,6)],true,some [1,2,2,1,2,2,1,2,2,1,2,2],none⟩
def qCy:TI:=⟨1,0,false,false,false,none,none, [],none,none,false,none,none⟩
def qB9:TI:=⟨1,8,false,false,false,none,none, [],some [D.v Value.nilFunc],none,false,none,none⟩
def qDk:TI:=⟨1,0,false,false,false,none,none, [],none,none,false,none,none⟩
def qDr:TI:=⟨1,8,false,false,false,none,none, [],some [D.v Value.nilFunc],none,false,none,none⟩
def qCN:TI:=⟨1,8,false,false,false,none,none, [],some [D.v Value.nilFunc],none,false,none,none⟩
def qEw:TI:=⟨1,0,false,false,false,none,none, [],none,none,false,none,none⟩
def qCc:TI:=⟨1,8,false,false,false,none,none, [],some [D.v Value.nilFunc],none,false,none,none⟩
def qCL:TI:=⟨1,24,false,false,false,none,some 305, [],some [D.v (Value.slice none 0 0)],none,false,none,none⟩
def qBF:TI:=⟨13,184,true,false,false,none,none, [(0,27),(12,251)],some [zB,zS,zS,zB,zS,zS,zB,zS,zS,zB,zS,zS,D.v (Value.slice none 0 0)],some [(0,12),(12,1)],false,none,none⟩
def qCn:TI:=⟨1,8,false,false,false,none,none, [],some [D.v Value.nilFunc],none,false,none,none⟩
def qBB:TI:=⟨1,0,false,false,false,none,none, [],none,none,false,none,none⟩
def qCS:TI:=⟨1,0,false,false,false,none,none, [],none,none,false,none,none⟩
def qEk:TI:=⟨13,168,true,false,false,none,none, [(0,214),(12,3)],some [zB,zS,zS,zB,zS,zS,zB,zS,zS,zB,zS,zS,zI],some [(0,12),(12,1)],true,none,none⟩
def qDf:TI:=⟨1,0,false,false,false,none,none, [],none,none,false,none,none⟩
def qDl:TI:=⟨1,24,false,false,false,none,some 311, [],some [D.v (Value.slice none 0 0)],none,false,none,none⟩
def qB7:TI:=⟨4,48,true,false,false,none,none, [(0,23),(3,3)],some [zB,zS,zS,zI],some [(0,3),(3,1)],true,none,none⟩
def qDv:TI:=⟨1,8,false,false,false,none,none, [],some [D.v Value.nilFunc],none,false,none,none⟩
def qEq:TI:=⟨1,8,false,false,false,none,none, [],some [D.v Value.nilFunc],none,false,none,none⟩
def qDw:TI:=⟨1,8,false,false,false,none,none, [],some [D.v Value.nilFunc],none,false,none,none⟩
def qD6:TI:=⟨1,8,false,false,false,none,none, [],some [D.v Value.nilFunc],none,false,none,none⟩
def qDF:TI:=⟨1,8,false,false,false,none,none, [],some [D.v Value.nilFunc],none,false,none,none⟩
def qCC:TI:=⟨1,8,false,false,false,none,none, [],some [D.v Value.nilFunc],none,false,none,none⟩
def qC0:TI:=⟨3,24,true,false,false,none,none, [(0,321),(1,322),(2,323)],some [D.v Value.nilFunc,D.v Value.nilFunc,D.v Value.nilFunc],some [(0,1),(1,1),(2,1)],false,none,none⟩
def qC2:TI:=⟨12,96,true,false,false,none,none, [],some [D.v Value.nilFunc,D.v Value.nilFunc,D.v Value.nilFunc,D.v Value.nilFunc,D.v Value.nilFunc,D.v Value.nilFunc,D.v Value.nilFunc,D.v Value.nilFunc,D.v Value.nilFunc,D.v Value.nilFunc,D.v Value.nilFunc,D.v Value.nilFunc],some [(0,3),(3,3),(6,3),(9,3)],false,none,some (4,325)⟩
def qDo:TI:=⟨1,8,false,false,false,none,none, [],some [D.v Value.nilFunc],none,false,none,none⟩
def qCG:TI:=⟨1,8,false,false,false,none,none, [],some [D.v Value.nilFunc],none,false,none,none⟩
def qDG:TI:=⟨1,0,false,false,false,none,none, [],none,none,false,none,none⟩
def qC9:TI:=⟨1,8,false,false,false,some .i64,none, [],some [zI],none,false,none,none⟩
def qCV:TI:=⟨1,0,false,false,false,none,none, [],none,none,false,none,none⟩
def qBI:TI:=⟨8,128,true,false,false,none,none, [],some [zS,zS,zS,zS,zS,zS,zS,zS],some [(0,1),(1,1),(2,1),(3,1),(4,1),(5,1),(6,1),(7,1)],false,none,some (8,9)⟩
def qDu:TI:=⟨1,16,false,false,false,none,none, [],some [D.v Value.nilIface],none,false,none,none⟩
def qDB:TI:=⟨1,8,false,false,false,none,none, [],some [D.v Value.nilFunc],none,false,none,none⟩
def qCB:TI:=⟨1,8,false,false,false,none,none, [],some [D.v Value.nilFunc],none,false,none,none⟩
def qCs:TI:=⟨4,32,true,false,false,none,none, [],some [D.v Value.nilFunc,D.v Value.nilFunc,D.v Value.nilFunc,D.v Value.nilFunc],some [(0,1),(1,1),(2,1),(3,1)],false,none,some (4,359)⟩
def qEr:TI:=⟨1,8,false,false,false,none,none, [],some [D.v Value.nilFunc],none,false,none,none⟩
def qEd:TI:=⟨1,8,false,false,false,none,none, [],some [D.v Value.nilFunc],none,false,none,none⟩
def qC1:TI:=⟨1,8,false,false,false,none,none, [],some [D.v Value.nilFunc],none,false,none,none⟩
def qDb:TI:=⟨1,8,false,false,false,none,none, [],some [D.v Value.nilFunc],none,false,none,none⟩
def qCF:TI:=⟨1,8,false,false,false,some .u64,none, [],some [D.v (Value.int IntKind.u64 (0))],none,false,none,none⟩
def qEz:TI:=⟨1,8,false,false,false,none,none, [],none,none,false,none,none⟩
def qCw:TI:=⟨1,8,false,false,false,none,none, [],some [D.v Value.nilFunc],none,false,none,none⟩
def qEl:TI:=⟨1,8,false,false,false,none,none, [],none,none,false,none,none⟩
def rw0:List (Option TI):= [some ti0,none,none,some ti3,some ti4,some ti5,none,none,none,some ti9,none,none,none,none,none,none]
theorem rk0:qbA Tryz.prog (16*0) rw0=rw0:=by kernel_rfl
def rw1:List (Option TI):= [none,none,none,none,some qFy,none,none,some qDi,none,some qwL,none,some qFE,some qFT,none,some qFn,none]
theorem rk1:qbA Tryz.prog (16*1) rw1=rw1:=by kernel_rfl
def rw2:List (Option TI):= [none,some qFN,some qFf,some qFX,some qFt,none,none,some qFK,some qFb,some qFr,none,some qFL,none,some qFc,none,none]
theorem rk2:qbA Tryz.prog (16*2) rw2=rw2:=by kernel_rfl
def rw3:List (Option TI):= [none,some qFd,none,some qFo,some qFu,none,some qFv,none,none,none,none,none,none,none,none,some qFe]
theorem rk3:qbA Tryz.prog (16*3) rw3=rw3:=by kernel_rfl
def rw4:List (Option TI):= [none,none,none,none,none,none,none,some qFP,none,none,none,none,none,none,some qFS,some qFZ]
theorem rk4:qbA Tryz.prog (16*4) rw4=rw4:=by kernel_rfl
def rw5:List (Option TI):= [none,none,some qGa,none,none,some qFg,none,none,none,none,none,none,none,none,some qFC,none]
theorem rk5:qbA Tryz.prog (16*5) rw5=rw5:=by kernel_rfl
def rw6:List (Option TI):= [some qFV,none,some qFD,none,none,some qCz,none,none,none,none,some qCp,some qCm,none,none,none,some qCj]
theorem rk6:qbA Tryz.prog (16*6) rw6=rw6:=by kernel_rfl
def rw7:List (Option TI):= [none,none,none,none,none,none,some qCq,none,none,none,some qDQ,some qCo,none,none,none,none]
theorem rk7:qbA Tryz.prog (16*7) rw7=rw7:=by kernel_rfl
def rw8:List (Option TI):= [none,some qBC,none,none,none,none,some qCE,some qBO,none,none,none,none,none,none,none,none]
theorem rk8:qbA Tryz.prog (16*8) rw8=rw8:=by kernel_rfl
def rw9:List (Option TI):= [some qEi,none,none,none,none,some qBG,none,none,none,some qCb,none,some qB5,some qB1,some qC7,none,some qCP]
theorem rk9:qbA Tryz.prog (16*9) rw9=rw9:=by kernel_rfl
def qDn:List (Option TI):= [some qBK,none,none,some qCD,none,none,none,some qB8,none,none,none,none,some qDx,none,none,some qBV]
theorem qFH:qbA Tryz.prog (16*10) qDn=qDn:=by kernel_rfl
def qD5:List (Option TI):= [none,none,none,some qB2,none,none,none,none,none,some qCA,none,none,some qDd,some qBW,none,some qD9]
theorem qFq:qbA Tryz.prog (16*11) qD5=qD5:=by kernel_rfl
def qD8:List (Option TI):= [some qB3,some qC8,none,some qC5,some qCQ,none,none,none,some qD4,none,none,none,some qCM,none,some qCK,some qCY]
theorem qFW:qbA Tryz.prog (16*12) qD8=qD8:=by kernel_rfl
def qEB:List (Option TI):= [none,none,none,some qEj,none,none,some qEh,some qCy,none,none,none,some qB9,none,none,none,none]
theorem qF5:qbA Tryz.prog (16*13) qEB=qEB:=by kernel_rfl
def qDH:List (Option TI):= [none,none,none,none,none,none,none,none,none,none,none,none,none,none,none,none]
theorem qFp:qbA Tryz.prog (16*14) qDH=qDH:=by kernel_rfl
def qC4:List (Option TI):= [some qDk,none,some qDr,some qCN,some qEw,none,none,none,none,none,some qCc,some qCL,none,none,some qBF,none]
theorem qFw:qbA Tryz.prog (16*15) qC4=qC4:=by kernel_rfl
def qDW:List (Option TI):= [none,none,none,some qCn,some qBB,none,none,none,none,none,none,none,none,none,none,none]
theorem qFa:qbA Tryz.prog (16*16) qDW=qDW:=by kernel_rfl
def qEn:List (Option TI):= [none,none,none,none,none,none,none,none,none,none,none,none,none,none,none,none]
theorem qF2:qbA Tryz.prog (16*17) qEn=qEn:=by kernel_rfl
def qCZ:List (Option TI):= [none,none,none,none,none,none,none,none,none,none,none,some qCS,none,none,none,none]
theorem qF4:qbA Tryz.prog (16*18) qCZ=qCZ:=by kernel_rfl
def qED:List (Option TI):= [none,some qEk,none,some qDf,none,some qDl,none,some qB7,none,none,none,some qDv,none,some qEq,some qDw,none]
theorem qGf:qbA Tryz.prog (16*19) qED=qED:=by kernel_rfl
def qBY:List (Option TI):= [none,some qD6,some qDF,some qCC,none,some qC0,some qC2,none,some qDo,some qCG,none,none,some qDG,none,none,none]
theorem qFj:qbA Tryz.prog (16*20) qBY=qBY:=by kernel_rfl
def qDp:List (Option TI):= [none,none,none,none,none,none,none,some qC9,some qCV,none,none,none,none,none,none,none]
theorem qGd:qbA Tryz.prog (16*21) qDp=qDp:=by kernel_rfl
def qDs:List (Option TI):= [none,none,none,some qBI,none,some qDu,some qDB,some qCB,some qCs,none,none,none,none,none,some qEr,some qEd]
theorem qF8:qbA Tryz.prog (16*22) qDs=qDs:=by kernel_rfl
def qCe:List (Option TI):= [none,some qC1,none,some qDb,none,none,none,none,none,none,none,none,some qCF,none,none,none]
theorem qGe:qbA Tryz.prog (16*23) qCe=qCe:=by kernel_rfl
def qDE:List (Option TI):= [some qEz,none,none,none,none,none,none,none,none,none,none,none,some qCw,none,none,none]
theorem qFF:qbA Tryz.prog (16*24) qDE=qDE:=by kernel_rfl
def qDj:List (Option TI):= [none,none,none,none,some qEl,none,none,none,none,none,none,none,none,none,none,none]
theorem qFx:qbA Tryz.prog (16*25) qDj=qDj:=by kernel_rfl
def qB6:List (Option TI):= [none,none,none,none,none,none,none,none,none,none,none,none,none,none,none,none]
theorem qFB:qbA Tryz.prog (16*26) qB6=qB6:=by kernel_rfl
def qCU:List (Option TI):= [none,none,none,none,none,none,none,none,none,none,none,none,none,none,none,none]
theorem qFU:qbA Tryz.prog (16*27) qCU=qCU:=by kernel_rfl
def qCr:List (Option TI):= [none]
theorem qFG:qbA Tryz.prog (16*28) qCr=qCr:=by kernel_rfl
def tbl:Tb:= [rw0,rw1,rw2,rw3,rw4,rw5,rw6,rw7,rw8,rw9,qDn,qD5,qD8,qEB,qDH,qC4,qDW,qEn,qCZ,qED,qBY,qDp,qDs,qCe,qDE,qDj,qB6,qCU,qCr]
theorem tOk:qcG Tryz.prog tbl:=qwc ⟨⟨rk0,by decide⟩,⟨rk1,by decide⟩,⟨rk2,by decide⟩,⟨rk3,by decide⟩,⟨rk4,by decide⟩,⟨rk5,by decide⟩,⟨rk6,by decide⟩,⟨rk7,by decide⟩,⟨rk8,by decide⟩,⟨rk9,by decide⟩,⟨qFH,by decide⟩,⟨qFq,by decide⟩,⟨qFW,by decide⟩,⟨qF5,by decide⟩,⟨qFp,by decide⟩,⟨qFw,by decide⟩,⟨qFa,by decide⟩,⟨qF2,by decide⟩,⟨qF4,by decide⟩,⟨qGf,by decide⟩,⟨qFj,by decide⟩,⟨qGd,by decide⟩,⟨qF8,by decide⟩,⟨qGe,by decide⟩,⟨qFF,by decide⟩,⟨qFx,by decide⟩,⟨qFB,by decide⟩,⟨qFU,by decide⟩,⟨qFG,by decide⟩,trivial⟩
end Go.Nv
end
