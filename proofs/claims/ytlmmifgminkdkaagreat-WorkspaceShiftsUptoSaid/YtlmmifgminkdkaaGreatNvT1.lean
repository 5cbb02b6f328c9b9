import Derived.KernelRfl
import Derived.Test.YtlmmifgminkdkaaGreatProg
import Derived.Test.YtlmmifgminkdkaaGreatNvN4
set_option linter.all false
set_option maxRecDepth 100000
section
namespace Go.Nv
open Go.Proofs
theorem mixed:Tryz.prog.follows .mixedOrders=true:=by kernel_rfl
def ql8(P:Program)(e:TypeId)(size bytes:Nat):Bool:=
 match P.info? e with
 |some i=>match i.zero with|some z=>i.size==size&&i.bytes==bytes&&z.cells.size==size|none=>false
 |none=>false
theorem qig{P:Program}{e:TypeId}{size bytes:Nat}(h:ql8 P e size bytes=true):qd7 P e size bytes:=by
 unfold ql8 at h
 split at h
 ·rename_i i hi
  split at h
  ·rename_i z hz
   simp only [Bool.and_eq_true,beq_iff_eq] at h
   exact ⟨i,z,hi,hz,h.1.1,h.1.2,h.2⟩
  ·simp at h
 ·simp at h
def qj7(P:Program)(t:TypeId)(fs:List (Nat×TypeId)):Bool:=
 match P.underlying t with
 |some (.struct l)=>decide (l.toList.map (fun x=>(x.offset,x.type))=fs)
 |_=>false
theorem fields_of{P:Program}{t:TypeId}{fs:List (Nat×TypeId)}(h:qj7 P t fs=true)(f:Nat):qb1 P t f=fs[f]? :=by
 unfold qj7 at h
 unfold qb1
 split at h
 ·rename_i l hl
  simp only [decide_eq_true_eq] at h
  rw [hl, <-h]
  simp [List.getElem?_map]
 ·simp at h
abbrev zS:D:= .v (.string {data:={toList:= [] }})
abbrev zB:D:= .v (.bool false)
abbrev zI:D:= .v (.int .i64 (0))
def qtV(P:Program)(t:TypeId):Bool:=match P.underlying t with|some .string=>true|_=>false
def qvd(P:Program)(t:TypeId):Bool:=match P.underlying t with|some .bool=>true|_=>false
def qFr(P:Program)(t:TypeId):List (Nat×TypeId):=match P.underlying t with|some (.struct l)=>l.toList.map (fun x=>(x.offset,x.type))|_=> []
def qAh(P:Program)(t:TypeId):Bool:=match P.underlying t with|some (.struct _)=>true|_=>false
def fill(P:Program)(t:TypeId)(i:TI):TI:=
 ⟨if (P.underlying t).isSome then P.cellsOf t else i.cells+1,P.bytesOf t,qaE P t,i.str&&qtV P t,i.boo&&qvd P t,
  match i.ik with|none=>none|some _=>qds P t,match i.elem with|none=>none|some _=>qbw P t,
  match i.fields with| [] => [] |x::xs=>if qAh P t then qFr P t else (x::x::xs),
  match i.zero with|none=>none|some _=>zeroCells P t,match i.plcs with|none=>none|some _=>plcs P t,
  i.eok&&ql8 P t i.cells i.bytes,
  match i.eqk with|none=>none|some _=>if qaE P t&& !P.eqGuardType P.depth t then qgE P 20 t else none,
  match i.arr with|none=>none|some _=>qo7 P t⟩
theorem qyz{P:Program}{t:TypeId}{i:TI}(h:fill P t i=i):qr2 P t i:=by
 have c:=congrArg TI.cells h
 have hu:(P.underlying t).isSome=true:=by
  simp only [fill] at c
  split at c
  ·assumption
  ·omega
 refine ⟨hu, ?_,congrArg TI.bytes h,congrArg TI.agg h,fun e=> ?_,fun e=> ?_, ?_, ?_, ?_, ?_, ?_,fun e=> ?_,fun ks e=> ?_, ?_⟩
 ·simp only [fill,hu,if_true] at c;exact c
 ·have:=congrArg TI.str h
  simp only [fill,e,Bool.true_and,qtV] at this
  split at this
  ·assumption
  ·simp at this
 ·have:=congrArg TI.boo h
  simp only [fill,e,Bool.true_and,qvd] at this
  split at this
  ·assumption
  ·simp at this
 ·have:=congrArg TI.ik h
  simp only [fill] at this
  cases hk:i.ik with
  |none=>exact .inl rfl
  |some x=>rw [hk] at this;exact .inr this
 ·have:=congrArg TI.elem h
  simp only [fill] at this
  cases hk:i.elem with
  |none=>exact .inl rfl
  |some x=>rw [hk] at this;exact .inr this
 ·have:=congrArg TI.fields h
  simp only [fill] at this
  cases hk:i.fields with
  |nil=>exact .inl rfl
  |cons x xs=>
   rw [hk] at this
   simp only at this
   split at this
   ·rename_i hs
    refine .inr (fields_of ?_)
    unfold qAh at hs
    unfold qFr at this
    unfold qj7
    split at hs
    ·rename_i l hl;rw [hl] at this;exact decide_eq_true this
    ·simp at hs
   ·exact absurd (congrArg List.length this) (by simp)
 ·have:=congrArg TI.zero h
  simp only [fill] at this
  cases hk:i.zero with
  |none=>exact .inl rfl
  |some x=>rw [hk] at this;exact .inr this
 ·have:=congrArg TI.plcs h
  simp only [fill] at this
  cases hk:i.plcs with
  |none=>exact .inl rfl
  |some x=>rw [hk] at this;exact .inr this
 ·have:=congrArg TI.eok h
  simp only [fill,e,Bool.true_and] at this
  exact qig this
 ·have:=congrArg TI.eqk h
  simp only [fill,e] at this
  split at this
  ·rename_i hc
   simp only [Bool.and_eq_true,Bool.not_eq_true'] at hc
   exact qlO this hc.1 hc.2
  ·simp at this
 ·have:=congrArg TI.arr h
  simp only [fill] at this
  cases hk:i.arr with
  |none=>exact .inl rfl
  |some x=>rw [hk] at this;exact .inr this
def qbA(P:Program):TypeId->List (Option TI)->List (Option TI)
 |_, [] => []
 |t,none::l=>none::qbA P (t+1) l
 |t,some i::l=>some (fill P t i)::qbA P (t+1) l
theorem qjD{P:Program}: ∀{l:List (Option TI)} {t:TypeId},qbA P t l=l-> ∀(j:Nat) (i:TI),l[j]? =some (some i)->qr2 P (t+j) i
 |none::l,t,h,0,i,e=>by simp at e
 |some k::l,t,h,0,i,e=>by
  simp at e;subst e
  simp only [qbA,List.cons.injEq,Option.some.injEq] at h
  exact qyz h.1
 |none::l,t,h,j+1,i,e=>by
  simp only [qbA,List.cons.injEq,true_and] at h
  have:=qjD h j i (by simpa using e)
  have e':t+1+j=t+(j+1):=(Nat.add_right_comm t j 1).symm
  exact e'▸this
 |some k::l,t,h,j+1,i,e=>by
  simp only [qbA,List.cons.injEq] at h
  have:=qjD h.2 j i (by simpa using e)
  have e':t+1+j=t+(j+1):=(Nat.add_right_comm t j 1).symm
  exact e'▸this
def qB3(P:Program):Nat->Tb->Prop
 |_, [] =>True
 |k,r::rs=>(qbA P (16*k) r=r/\r.length<=16)/\qB3 P (k+1) rs
theorem qn8{T:Tb}{t:TypeId}{i:TI}(h:qg9 T t=some i): ∃l,T[t/16]? =some l/\l[t%16]? =some (some i):=by
 unfold qg9 at h
 rw [qb9] at h
 split at h
 ·rename_i l hl
  rw [qb9] at h
  split at h
  ·rename_i j hj;exact ⟨l,hl,by rw [hj,h]⟩
  ·simp at h
 ·simp at h
theorem qxF{P:Program}: ∀(T:Tb) (k:Nat),qB3 P k T-> ∀(a b:Nat) (l:List (Option TI)) (i:TI),T[a]? =some l->l[b]? =some (some i)->qr2 P (16*(k+a)+b) i:=by
 intro T
 induction T with
 |nil=>intro k h a b l i e1;simp at e1
 |cons r rs ih=>
  intro k h a b l i e1 e2
  unfold qB3 at h
  cases a with
  |zero=>
   have hr:r=l:=Option.some.inj e1
   rw [<-hr] at e2
   have:=qjD h.1.1 b i e2
   exact this
  |succ a=>
   have:=ih (k+1) h.2 a b l i e1 e2
   have e':16*(k+1+a)+b=16*(k+(a+1))+b:=by rw [Nat.add_right_comm k 1 a];rfl
   exact e'▸this
theorem qxt{P:Program}{T:Tb}(h:qB3 P 0 T):qcG P T:=by
 intro t i h'
 obtain ⟨l,h1,h2⟩:=qn8 h'
 have:=qxF T 0 h (t/16) (t%16) l i h1 h2
 have e':16*(0+t/16)+t%16=t:=by rw [Nat.zero_add];exact Nat.div_add_mod t 16
 exact e'▸this
def ti0:TI:=⟨1,0,false,false,false,none,none, [],none,none,false,none,none⟩
def ti3:TI:=⟨1,8,false,false,false,some .i64,none, [],some [zI],none,true,none,none⟩
def ti4:TI:=⟨1,1,false,false,true,none,none, [],some [zB],none,false,none,none⟩
def ti5:TI:=⟨1,1,false,false,false,some .u8,none, [],some [D.v (Value.int IntKind.u8 (0))],none,true,none,none⟩
def ti9:TI:=⟨1,16,false,true,false,none,none, [],some [zS],none,false,none,none⟩
def qF5:TI:=⟨1,16,false,false,false,none,none, [],some [D.v Value.nilIface],none,false,none,none⟩
def qEq:TI:=⟨3,40,true,false,false,none,none, [(0,4),(1,9),(2,9)],some [zB,zS,zS],some [(0,1),(1,1),(2,1)],true,some [1,2,2],none⟩
def qxV:TI:=⟨6,80,true,false,false,none,none, [(0,23),(3,23)],some [zB,zS,zS,zB,zS,zS],some [(0,3),(3,3)],true,some [1,2,2,1,2,2],none⟩
def qEd:TI:=⟨12,160,true,false,false,none,none, [(0,25),(6,25)],some [zB,zS,zS,zB,zS,zS,zB,zS,zS,zB,zS,zS],some [(0,6),(6,6)],false,some [1,2,2,1,2,2,1,2,2,1,2,2],none⟩
def qGM:TI:=⟨1,24,false,false,false,none,some 45, [],some [D.v (Value.slice none 0 0)],none,false,none,none⟩
def qF9:TI:=⟨13,184,true,false,false,none,none, [(0,27),(12,28)],some [zB,zS,zS,zB,zS,zS,zB,zS,zS,zB,zS,zS,D.v (Value.slice none 0 0)],some [(0,12),(12,1)],false,none,none⟩
def qGP:TI:=⟨1,8,false,false,false,none,none, [],some [D.v Value.nilFunc],none,false,none,none⟩
def qFW:TI:=⟨1,8,false,false,false,none,none, [],some [D.v Value.nilFunc],none,false,none,none⟩
def qGv:TI:=⟨1,8,false,false,false,some .i64,none, [],some [zI],none,false,none,none⟩
def qFY:TI:=⟨1,0,false,false,false,none,none, [],none,none,false,none,none⟩
def qGL:TI:=⟨1,8,false,false,false,none,none, [],some [D.v Value.nilFunc],none,false,none,none⟩
def qGR:TI:=⟨1,24,false,false,false,none,some 25, [],some [D.v (Value.slice none 0 0)],none,true,none,none⟩
def qGs:TI:=⟨1,24,false,false,false,none,some 40, [],some [D.v (Value.slice none 0 0)],none,false,none,none⟩
def qGF:TI:=⟨2,48,true,false,false,none,none, [(0,40),(1,41)],some [D.v (Value.slice none 0 0),D.v (Value.slice none 0 0)],some [(0,1),(1,1)],true,none,none⟩
def qF0:TI:=⟨3,64,true,false,false,none,none, [(0,9),(1,43)],some [zS,D.v (Value.slice none 0 0),D.v (Value.slice none 0 0)],some [(0,1),(1,2)],true,none,none⟩
def qGh:TI:=⟨1,8,false,false,false,none,none, [],some [D.v Value.nilFunc],none,false,none,none⟩
def qGE:TI:=⟨1,24,false,false,false,none,some 43, [],some [D.v (Value.slice none 0 0)],none,false,none,none⟩
def qGQ:TI:=⟨1,0,false,false,false,none,none, [],none,none,false,none,none⟩
def qGK:TI:=⟨1,0,false,false,false,none,none, [],none,none,false,none,none⟩
def qF6:TI:=⟨1,0,false,false,false,none,none, [],none,none,false,none,none⟩
def qF7:TI:=⟨1,0,false,false,false,none,none, [],none,none,false,none,none⟩
def qF1:TI:=⟨1,24,false,false,false,none,some 23, [],some [D.v (Value.slice none 0 0)],none,true,none,none⟩
def qGH:TI:=⟨1,24,false,false,false,none,some 3, [],some [D.v (Value.slice none 0 0)],none,true,none,none⟩
def qGi:TI:=⟨1,0,false,false,false,none,none, [],none,none,false,none,none⟩
def qGt:TI:=⟨1,0,false,false,false,none,none, [],none,none,false,none,none⟩
def qGy:TI:=⟨1,8,false,false,false,none,none, [],some [D.v Value.nilFunc],none,false,none,none⟩
def qGx:TI:=⟨2,24,true,false,false,none,none, [(0,4),(1,9)],some [zB,zS],some [(0,1),(1,1)],false,some [1,2],none⟩
def qGq:TI:=⟨4,48,true,false,false,none,none, [(0,96),(2,96)],some [zB,zS,zB,zS],some [(0,2),(2,2)],false,some [1,2,1,2],none⟩
def qEu:TI:=⟨1,8,false,false,false,none,none, [],some [D.v Value.nilFunc],none,false,none,none⟩
def qFa:TI:=⟨1,8,false,false,false,none,none, [],some [D.v Value.nilFunc],none,false,none,none⟩
def qEP:TI:=⟨1,8,false,false,false,none,none, [],some [D.v Value.nilFunc],none,false,none,none⟩
def qCu:TI:=⟨1,8,false,false,false,none,none, [],some [D.v Value.nilFunc],none,false,none,none⟩
def qE2:TI:=⟨1,8,false,false,false,none,none, [],some [D.v Value.nilFunc],none,false,none,none⟩
def qDH:TI:=⟨1,8,false,false,false,none,none, [],some [D.v Value.nilFunc],none,false,none,none⟩
def qE7:TI:=⟨1,8,false,false,false,none,none, [],some [D.v Value.nilFunc],none,false,none,none⟩
def qDZ:TI:=⟨1,8,false,false,false,none,none, [],some [D.v Value.nilFunc],none,false,none,none⟩
def qD3:TI:=⟨1,8,false,false,false,none,none, [],some [D.v Value.nilFunc],none,false,none,none⟩
def qC7:TI:=⟨1,8,false,false,false,none,none, [],some [D.v Value.nilFunc],none,false,none,none⟩
def qEW:TI:=⟨1,0,false,false,false,none,none, [],none,none,false,none,none⟩
def qCl:TI:=⟨1,24,false,false,false,none,some 192, [],some [D.v (Value.slice none 0 0)],none,false,none,none⟩
def qEg:TI:=⟨1,0,false,false,false,none,none, [],none,none,false,none,none⟩
def qEY:TI:=⟨1,24,false,false,false,none,some 214, [],some [D.v (Value.slice none 0 0)],none,false,none,none⟩
def qFf:TI:=⟨1,24,false,false,false,none,some 78, [],some [D.v (Value.slice none 0 0)],none,false,none,none⟩
def qEh:TI:=⟨1,24,false,false,false,none,some 79, [],some [D.v (Value.slice none 0 0)],none,false,none,none⟩
def qCW:TI:=⟨16,256,true,false,false,none,none, [(0,27),(12,155),(13,78),(14,156),(15,157)],some [zB,zS,zS,zB,zS,zS,zB,zS,zS,zB,zS,zS,D.v (Value.slice none 0 0),D.v (Value.slice none 0 0),D.v (Value.slice none 0 0),D.v (Value.slice none 0 0)],some [(0,12),(12,1),(13,1),(14,1),(15,1)],false,none,none⟩
def qFe:TI:=⟨1,0,false,false,false,none,none, [],none,none,false,none,none⟩
def qEU:TI:=⟨1,8,false,false,false,none,none, [],some [D.v Value.nilFunc],none,false,none,none⟩
def qCf:TI:=⟨1,8,false,false,false,none,none, [],some [D.v Value.nilFunc],none,false,none,none⟩
def qCz:TI:=⟨1,24,false,false,false,none,some 175, [],some [D.v (Value.slice none 0 0)],none,false,none,none⟩
def qC6:TI:=⟨3,24,true,false,false,none,none, [(0,3),(1,3),(2,3)],some [zI,zI,zI],some [(0,1),(1,1),(2,1)],true,some [6,6,6],none⟩
def qDs:TI:=⟨1,0,false,false,false,none,none, [],none,none,false,none,none⟩
def qC3:TI:=⟨1,8,false,false,false,none,none, [],some [D.v Value.nilFunc],none,false,none,none⟩
def qEk:TI:=⟨1,8,false,false,false,none,none, [],some [D.v Value.nilFunc],none,false,none,none⟩
def qCX:TI:=⟨1,8,false,false,false,none,none, [],some [D.v Value.nilFunc],none,false,none,none⟩
def qCa:TI:=⟨1,8,false,false,false,some .u64,none, [],some [D.v (Value.int IntKind.u64 (0))],none,false,none,none⟩
def qEA:TI:=⟨1,4,false,false,false,some .u32,none, [],some [D.v (Value.int IntKind.u32 (0))],none,true,none,none⟩
def qDd:TI:=⟨1,8,false,false,false,some .u64,none, [],some [D.v (Value.int IntKind.u64 (0))],none,false,none,none⟩
def qCR:TI:=⟨8,8,true,false,false,none,none, [],some [D.v (Value.int IntKind.u8 (0)),D.v (Value.int IntKind.u8 (0)),D.v (Value.int IntKind.u8 (0)),D.v (Value.int IntKind.u8 (0)),D.v (Value.int IntKind.u8 (0)),D.v (Value.int IntKind.u8 (0)),D.v (Value.int IntKind.u8 (0)),D.v (Value.int IntKind.u8 (0))],some [(0,1),(1,1),(2,1),(3,1),(4,1),(5,1),(6,1),(7,1)],false,none,some (8,5)⟩
def qDa:TI:=⟨1,24,false,false,false,none,some 5, [],some [D.v (Value.slice none 0 0)],none,false,none,none⟩
def qEe:TI:=⟨1,0,false,false,false,none,none, [],none,none,false,none,none⟩
def qCs:TI:=⟨1,0,false,false,false,none,none, [],none,none,false,none,none⟩
def qDM:TI:=⟨1,8,false,false,false,none,none, [],some [D.v Value.nilFunc],none,false,none,none⟩
def qD9:TI:=⟨1,8,false,false,false,none,none, [],some [D.v Value.nilFunc],none,false,none,none⟩
def qC8:TI:=⟨1,8,false,false,false,none,none, [],some [D.v Value.nilFunc],none,false,none,none⟩
def qDb:TI:=⟨12,160,true,false,false,none,none, [(0,25),(6,25)],some [zB,zS,zS,zB,zS,zS,zB,zS,zS,zB,zS,zS],some [(0,6),(6,6)],true,some [1,2,2,1,2,2,1,2,2,1,2,2],none⟩
def qCB:TI:=⟨1,0,false,false,false,none,none, [],none,none,false,none,none⟩
def qES:TI:=⟨1,8,false,false,false,none,none, [],some [D.v Value.nilFunc],none,false,none,none⟩
def qCN:TI:=⟨1,0,false,false,false,none,none, [],none,none,false,none,none⟩
def qDu:TI:=⟨1,8,false,false,false,none,none, [],some [D.v Value.nilFunc],none,false,none,none⟩
def qEv:TI:=⟨1,8,false,false,false,none,none, [],some [D.v Value.nilFunc],none,false,none,none⟩
def qEy:TI:=⟨1,0,false,false,false,none,none, [],none,none,false,none,none⟩
def qCe:TI:=⟨1,8,false,false,false,none,none, [],some [D.v Value.nilFunc],none,false,none,none⟩
def qD8:TI:=⟨1,24,false,false,false,none,some 305, [],some [D.v (Value.slice none 0 0)],none,false,none,none⟩
def qDB:TI:=⟨13,184,true,false,false,none,none, [(0,27),(12,251)],some [zB,zS,zS,zB,zS,zS,zB,zS,zS,zB,zS,zS,D.v (Value.slice none 0 0)],some [(0,12),(12,1)],false,none,none⟩
def qC9:TI:=⟨1,8,false,false,false,none,none, [],some [D.v Value.nilFunc],none,false,none,none⟩
def qDq:TI:=⟨1,0,false,false,false,none,none, [],none,none,false,none,none⟩
def qCh:TI:=⟨1,0,false,false,false,none,none, [],none,none,false,none,none⟩
def qEn:TI:=⟨13,168,true,false,false,none,none, [(0,214),(12,3)],some [zB,zS,zS,zB,zS,zS,zB,zS,zS,zB,zS,zS,zI],some [(0,12),(12,1)],true,none,none⟩
def qC4:TI:=⟨1,0,false,false,false,none,none, [],none,none,false,none,none⟩
def qE9:TI:=⟨1,24,false,false,false,none,some 311, [],some [D.v (Value.slice none 0 0)],none,false,none,none⟩
def qCt:TI:=⟨4,48,true,false,false,none,none, [(0,23),(3,3)],some [zB,zS,zS,zI],some [(0,3),(3,1)],true,none,none⟩
def qD7:TI:=⟨1,8,false,false,false,none,none, [],some [D.v Value.nilFunc],none,false,none,none⟩
def qDW:TI:=⟨1,8,false,false,false,none,none, [],some [D.v Value.nilFunc],none,false,none,none⟩
def qCA:TI:=⟨1,8,false,false,false,none,none, [],some [D.v Value.nilFunc],none,false,none,none⟩
def qCk:TI:=⟨1,8,false,false,false,none,none, [],some [D.v Value.nilFunc],none,false,none,none⟩
def qDc:TI:=⟨1,8,false,false,false,none,none, [],some [D.v Value.nilFunc],none,false,none,none⟩
def qCd:TI:=⟨1,8,false,false,false,none,none, [],some [D.v Value.nilFunc],none,false,none,none⟩
def qD2:TI:=⟨3,24,true,false,false,none,none, [(0,321),(1,322),(2,323)],some [D.v Value.nilFunc,D.v Value.nilFunc,D.v Value.nilFunc],some [(0,1),(1,1),(2,1)],false,none,none⟩
def qEO:TI:=⟨12,96,true,false,false,none,none, [],some [D.v Value.nilFunc,D.v Value.nilFunc,D.v Value.nilFunc,D.v Value.nilFunc,D.v Value.nilFunc,D.v Value.nilFunc,D.v Value.nilFunc,D.v Value.nilFunc,D.v Value.nilFunc,D.v Value.nilFunc,D.v Value.nilFunc,D.v Value.nilFunc],some [(0,3),(3,3),(6,3),(9,3)],false,none,some (4,325)⟩
def qDf:TI:=⟨1,8,false,false,false,none,none, [],some [D.v Value.nilFunc],none,false,none,none⟩
def qDw:TI:=⟨1,8,false,false,false,none,none, [],some [D.v Value.nilFunc],none,false,none,none⟩
def qDT:TI:=⟨1,0,false,false,false,none,none, [],none,none,false,none,none⟩
def qFj:TI:=⟨1,8,false,false,false,some .i64,none, [],some [zI],none,false,none,none⟩
def qFk:TI:=⟨1,0,false,false,false,none,none, [],none,none,false,none,none⟩
def qEQ:TI:=⟨8,128,true,false,false,none,none, [],some [zS,zS,zS,zS,zS,zS,zS,zS],some [(0,1),(1,1),(2,1),(3,1),(4,1),(5,1),(6,1),(7,1)],false,none,some (8,9)⟩
def qCE:TI:=⟨1,16,false,false,false,none,none, [],some [D.v Value.nilIface],none,false,none,none⟩
def qDS:TI:=⟨1,8,false,false,false,none,none, [],some [D.v Value.nilFunc],none,false,none,none⟩
def qEJ:TI:=⟨1,8,false,false,false,none,none, [],some [D.v Value.nilFunc],none,false,none,none⟩
def qCm:TI:=⟨4,32,true,false,false,none,none, [],some [D.v Value.nilFunc,D.v Value.nilFunc,D.v Value.nilFunc,D.v Value.nilFunc],some [(0,1),(1,1),(2,1),(3,1)],false,none,some (4,359)⟩
def qD1:TI:=⟨1,8,false,false,false,none,none, [],some [D.v Value.nilFunc],none,false,none,none⟩
def qDP:TI:=⟨1,8,false,false,false,none,none, [],some [D.v Value.nilFunc],none,false,none,none⟩
def qDJ:TI:=⟨1,8,false,false,false,none,none, [],some [D.v Value.nilFunc],none,false,none,none⟩
def qDY:TI:=⟨1,8,false,false,false,none,none, [],some [D.v Value.nilFunc],none,false,none,none⟩
def qEx:TI:=⟨1,8,false,false,false,some .u64,none, [],some [D.v (Value.int IntKind.u64 (0))],none,false,none,none⟩
def qFb:TI:=⟨1,8,false,false,false,none,none, [],none,none,false,none,none⟩
def qEN:TI:=⟨1,8,false,false,false,none,none, [],some [D.v Value.nilFunc],none,false,none,none⟩
def qER:TI:=⟨1,8,false,false,false,none,none, [],none,none,false,none,none⟩
def rw0:List (Option TI):= [some ti0,none,none,some ti3,some ti4,some ti5,none,none,none,some ti9,none,none,none,none,none,none]
theorem rk0:qbA Tryz.prog (16*0) rw0=rw0:=by kernel_rfl
def rw1:List (Option TI):= [none,none,none,none,some qF5,none,none,some qEq,none,some qxV,none,some qEd,some qGM,none,some qF9,none]
theorem rk1:qbA Tryz.prog (16*1) rw1=rw1:=by kernel_rfl
def rw2:List (Option TI):= [none,some qGP,some qFW,some qGv,some qFY,none,none,some qGL,some qGR,some qGs,none,some qGF,none,some qF0,none,none]
theorem rk2:qbA Tryz.prog (16*2) rw2=rw2:=by kernel_rfl
def rw3:List (Option TI):= [none,some qGh,none,some qGE,some qGQ,none,some qGK,none,none,none,none,none,none,none,none,some qF6]
theorem rk3:qbA Tryz.prog (16*3) rw3=rw3:=by kernel_rfl
def rw4:List (Option TI):= [none,none,none,none,none,none,none,some qF7,none,none,none,none,none,none,some qF1,some qGH]
theorem rk4:qbA Tryz.prog (16*4) rw4=rw4:=by kernel_rfl
def rw5:List (Option TI):= [none,none,some qGi,none,none,some qGt,none,none,none,none,none,none,none,none,some qGy,none]
theorem rk5:qbA Tryz.prog (16*5) rw5=rw5:=by kernel_rfl
def rw6:List (Option TI):= [some qGx,none,some qGq,none,none,some qEu,none,none,none,none,some qFa,some qEP,none,none,none,some qCu]
theorem rk6:qbA Tryz.prog (16*6) rw6=rw6:=by kernel_rfl
def rw7:List (Option TI):= [none,none,none,none,none,none,some qE2,none,none,none,some qDH,some qE7,none,none,none,none]
theorem rk7:qbA Tryz.prog (16*7) rw7=rw7:=by kernel_rfl
def rw8:List (Option TI):= [none,some qDZ,none,none,none,none,some qD3,some qC7,none,none,none,none,none,none,none,none]
theorem rk8:qbA Tryz.prog (16*8) rw8=rw8:=by kernel_rfl
def rw9:List (Option TI):= [some qEW,none,none,none,none,some qCl,none,none,none,some qEg,none,some qEY,some qFf,some qEh,none,some qCW]
theorem rk9:qbA Tryz.prog (16*9) rw9=rw9:=by kernel_rfl
def qFg:List (Option TI):= [some qFe,none,none,some qEU,none,none,none,some qCf,none,none,none,none,some qCz,none,none,some qC6]
theorem qGc:qbA Tryz.prog (16*10) qFg=qFg:=by kernel_rfl
def qD0:List (Option TI):= [none,none,none,some qDs,none,none,none,none,none,some qC3,none,none,some qEk,some qCX,none,some qCa]
theorem qGb:qbA Tryz.prog (16*11) qD0=qD0:=by kernel_rfl
def qC2:List (Option TI):= [some qEA,some qDd,none,some qCR,some qDa,none,none,none,some qEe,none,none,none,some qCs,none,some qDM,some qD9]
theorem qGr:qbA Tryz.prog (16*12) qC2=qC2:=by kernel_rfl
def qFh:List (Option TI):= [none,none,none,some qC8,none,none,some qDb,some qCB,none,none,none,some qES,none,none,none,none]
theorem qGW:qbA Tryz.prog (16*13) qFh=qFh:=by kernel_rfl
def qDr:List (Option TI):= [none,none,none,none,none,none,none,none,none,none,none,none,none,none,none,none]
theorem qGa:qbA Tryz.prog (16*14) qDr=qDr:=by kernel_rfl
def qDK:List (Option TI):= [some qCN,none,some qDu,some qEv,some qEy,none,none,none,none,none,some qCe,some qD8,none,none,some qDB,none]
theorem qGm:qbA Tryz.prog (16*15) qDK=qDK:=by kernel_rfl
def qDm:List (Option TI):= [none,none,none,some qC9,some qDq,none,none,none,none,none,none,none,none,none,none,none]
theorem qF4:qbA Tryz.prog (16*16) qDm=qDm:=by kernel_rfl
def qCF:List (Option TI):= [none,none,none,none,none,none,none,none,none,none,none,none,none,none,none,none]
theorem qF8:qbA Tryz.prog (16*17) qCF=qCF:=by kernel_rfl
def qDo:List (Option TI):= [none,none,none,none,none,none,none,none,none,none,none,some qCh,none,none,none,none]
theorem qGV:qbA Tryz.prog (16*18) qDo=qDo:=by kernel_rfl
def qEB:List (Option TI):= [none,some qEn,none,some qC4,none,some qE9,none,some qCt,none,none,none,some qD7,none,some qDW,some qCA,none]
theorem qGS:qbA Tryz.prog (16*19) qEB=qEB:=by kernel_rfl
def qDO:List (Option TI):= [none,some qCk,some qDc,some qCd,none,some qD2,some qEO,none,some qDf,some qDw,none,none,some qDT,none,none,none]
theorem qFU:qbA Tryz.prog (16*20) qDO=qDO:=by kernel_rfl
def qFi:List (Option TI):= [none,none,none,none,none,none,none,some qFj,some qFk,none,none,none,none,none,none,none]
theorem qGk:qbA Tryz.prog (16*21) qFi=qFi:=by kernel_rfl
def qEF:List (Option TI):= [none,none,none,some qEQ,none,some qCE,some qDS,some qEJ,some qCm,none,none,none,none,none,some qD1,some qDP]
theorem qGw:qbA Tryz.prog (16*22) qEF=qEF:=by kernel_rfl
def qD4:List (Option TI):= [none,some qDJ,none,some qDY,none,none,none,none,none,none,none,none,some qEx,none,none,none]
theorem qGf:qbA Tryz.prog (16*23) qD4=qD4:=by kernel_rfl
def qDp:List (Option TI):= [some qFb,none,none,none,none,none,none,none,none,none,none,none,some qEN,none,none,none]
theorem qGJ:qbA Tryz.prog (16*24) qDp=qDp:=by kernel_rfl
def qDk:List (Option TI):= [none,none,none,none,some qER,none,none,none,none,none,none,none,none,none,none,none]
theorem qFV:qbA Tryz.prog (16*25) qDk=qDk:=by kernel_rfl
def qCK:List (Option TI):= [none,none,none,none,none,none,none,none,none,none,none,none,none,none,none,none]
theorem qGI:qbA Tryz.prog (16*26) qCK=qCK:=by kernel_rfl
def qEH:List (Option TI):= [none,none,none,none,none,none,none,none,none,none,none,none,none,none,none,none]
theorem qF2:qbA Tryz.prog (16*27) qEH=qEH:=by kernel_rfl
def qDv:List (Option TI):= [none]
theorem qGO:qbA Tryz.prog (16*28) qDv=qDv:=by kernel_rfl
def tbl:Tb:= [rw0,rw1,rw2,rw3,rw4,rw5,rw6,rw7,rw8,rw9,qFg,qD0,qC2,qFh,qDr,qDK,qDm,qCF,qDo,qEB,qDO,qFi,qEF,qD4,qDp,qDk,qCK,qEH,qDv]
theorem tOk:qcG Tryz.prog tbl:=qxt ⟨⟨rk0,by decide⟩,⟨rk1,by decide⟩,⟨rk2,by decide⟩,⟨rk3,by decide⟩,⟨rk4,by decide⟩,⟨rk5,by decide⟩,⟨rk6,by decide⟩,⟨rk7,by decide⟩,⟨rk8,by decide⟩,⟨rk9,by decide⟩,⟨qGc,by decide⟩,⟨qGb,by decide⟩,⟨qGr,by decide⟩,⟨qGW,by decide⟩,⟨qGa,by decide⟩,⟨qGm,by decide⟩,⟨qF4,by decide⟩,⟨qF8,by decide⟩,⟨qGV,by decide⟩,⟨qGS,by decide⟩,⟨qFU,by decide⟩,⟨qGk,by decide⟩,⟨qGw,by decide⟩,⟨qGf,by decide⟩,⟨qGJ,by decide⟩,⟨qFV,by decide⟩,⟨qGI,by decide⟩,⟨qF2,by decide⟩,⟨qGO,by decide⟩,trivial⟩
end Go.Nv
end
