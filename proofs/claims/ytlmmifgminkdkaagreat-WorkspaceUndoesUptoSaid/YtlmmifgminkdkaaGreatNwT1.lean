import Derived.KernelRfl
import Derived.Test.YtlmmifgminkdkaaGreatProg
import Derived.Test.YtlmmifgminkdkaaGreatNwN4
set_option linter.all false
set_option maxRecDepth 100000
section
namespace Go.Nv
open Go.Proofs
theorem mixed:Tryz.prog.follows .mixedOrders=true:=by kernel_rfl
def qlv(P:Program)(e:TypeId)(size bytes:Nat):Bool:=
 match P.info? e with
 |some i=>match i.zero with|some z=>i.size==size&&i.bytes==bytes&&z.cells.size==size|none=>false
 |none=>false
theorem qpu{P:Program}{e:TypeId}{size bytes:Nat}(h:qlv P e size bytes=true):qdY P e size bytes:=by
 unfold qlv at h
 split at h
 ·rename_i i hi
  split at h
  ·rename_i z hz
   simp only [Bool.and_eq_true,beq_iff_eq] at h
   exact ⟨i,z,hi,hz,h.1.1,h.1.2,h.2⟩
  ·simp at h
 ·simp at h
def qjq(P:Program)(t:TypeId)(fs:List (Nat×TypeId)):Bool:=
 match P.underlying t with
 |some (.struct l)=>decide (l.toList.map (fun x=>(x.offset,x.type))=fs)
 |_=>false
theorem fields_of{P:Program}{t:TypeId}{fs:List (Nat×TypeId)}(h:qjq P t fs=true)(f:Nat):qbS P t f=fs[f]? :=by
 unfold qjq at h
 unfold qbS
 split at h
 ·rename_i l hl
  simp only [decide_eq_true_eq] at h
  rw [hl, <-h]
  simp [List.getElem?_map]
 ·simp at h
abbrev zS:D:= .v (.string {data:={toList:= [] }})
abbrev zB:D:= .v (.bool false)
abbrev zI:D:= .v (.int .i64 (0))
def qtg(P:Program)(t:TypeId):Bool:=match P.underlying t with|some .string=>true|_=>false
def qs8(P:Program)(t:TypeId):Bool:=match P.underlying t with|some .bool=>true|_=>false
def qDP(P:Program)(t:TypeId):List (Nat×TypeId):=match P.underlying t with|some (.struct l)=>l.toList.map (fun x=>(x.offset,x.type))|_=> []
def qz0(P:Program)(t:TypeId):Bool:=match P.underlying t with|some (.struct _)=>true|_=>false
def fill(P:Program)(t:TypeId)(i:TI):TI:=
 ⟨if (P.underlying t).isSome then P.cellsOf t else i.cells+1,P.bytesOf t,qaB P t,i.str&&qtg P t,i.boo&&qs8 P t,
  match i.ik with|none=>none|some _=>qdj P t,match i.elem with|none=>none|some _=>qbo P t,
  match i.fields with| [] => [] |x::xs=>if qz0 P t then qDP P t else (x::x::xs),
  match i.zero with|none=>none|some _=>zeroCells P t,match i.plcs with|none=>none|some _=>plcs P t,
  i.eok&&qlv P t i.cells i.bytes,
  match i.eqk with|none=>none|some _=>if qaB P t&& !P.eqGuardType P.depth t then qgl P 20 t else none,
  match i.arr with|none=>none|some _=>qoq P t⟩
theorem qyc{P:Program}{t:TypeId}{i:TI}(h:fill P t i=i):qrI P t i:=by
 have c:=congrArg TI.cells h
 have hu:(P.underlying t).isSome=true:=by
  simp only [fill] at c
  split at c
  ·assumption
  ·omega
 refine ⟨hu, ?_,congrArg TI.bytes h,congrArg TI.agg h,fun e=> ?_,fun e=> ?_, ?_, ?_, ?_, ?_, ?_,fun e=> ?_,fun ks e=> ?_, ?_⟩
 ·simp only [fill,hu,if_true] at c;exact c
 ·have:=congrArg TI.str h
  simp only [fill,e,Bool.true_and,qtg] at this
  split at this
  ·assumption
  ·simp at this
 ·have:=congrArg TI.boo h
  simp only [fill,e,Bool.true_and,qs8] at this
  split at this
  ·assumption
  ·simp at this
 ·have:=congrArg TI.ik h
  simp only [fill] at this
  cases hk:i.ik with
  |none=>exact .inl rfl
  |some x=>rw [hk] at this;exact .inr this
 ·have:=congrArg TI.elem h
  simp only [fill] at this
  cases hk:i.elem with
  |none=>exact .inl rfl
  |some x=>rw [hk] at this;exact .inr this
 ·have:=congrArg TI.fields h
  simp only [fill] at this
  cases hk:i.fields with
  |nil=>exact .inl rfl
  |cons x xs=>
   rw [hk] at this
   simp only at this
   split at this
   ·rename_i hs
    refine .inr (fields_of ?_)
    unfold qz0 at hs
    unfold qDP at this
    unfold qjq
    split at hs
    ·rename_i l hl;rw [hl] at this;exact decide_eq_true this
    ·simp at hs
   ·exact absurd (congrArg List.length this) (by simp)
 ·have:=congrArg TI.zero h
  simp only [fill] at this
  cases hk:i.zero with
  |none=>exact .inl rfl
  |some x=>rw [hk] at this;exact .inr this
 ·have:=congrArg TI.plcs h
  simp only [fill] at this
  cases hk:i.plcs with
  |none=>exact .inl rfl
  |some x=>rw [hk] at this;exact .inr this
 ·have:=congrArg TI.eok h
  simp only [fill,e,Bool.true_and] at this
  exact qpu this
 ·have:=congrArg TI.eqk h
  simp only [fill,e] at this
  split at this
  ·rename_i hc
   simp only [Bool.and_eq_true,Bool.not_eq_true'] at hc
   exact qlf this hc.1 hc.2
  ·simp at this
 ·have:=congrArg TI.arr h
  simp only [fill] at this
  cases hk:i.arr with
  |none=>exact .inl rfl
  |some x=>rw [hk] at this;exact .inr this
def qbs(P:Program):TypeId->List (Option TI)->List (Option TI)
 |_, [] => []
 |t,none::l=>none::qbs P (t+1) l
 |t,some i::l=>some (fill P t i)::qbs P (t+1) l
theorem qjz{P:Program}: ∀{l:List (Option TI)} {t:TypeId},qbs P t l=l-> ∀(j:Nat) (i:TI),l[j]? =some (some i)->qrI P (t+j) i
 |none::l,t,h,0,i,e=>by simp at e
 |some k::l,t,h,0,i,e=>by
  simp at e;subst e
  simp only [qbs,List.cons.injEq,Option.some.injEq] at h
  exact qyc h.1
 |none::l,t,h,j+1,i,e=>by
  simp only [qbs,List.cons.injEq,true_and] at h
  have:=qjz h j i (by simpa using e)
  have e':t+1+j=t+(j+1):=(Nat.add_right_comm t j 1).symm
  exact e'▸this
 |some k::l,t,h,j+1,i,e=>by
  simp only [qbs,List.cons.injEq] at h
  have:=qjz h.2 j i (by simpa using e)
  have e':t+1+j=t+(j+1):=(Nat.add_right_comm t j 1).symm
  exact e'▸this
def qAl(P:Program):Nat->Tb->Prop
 |_, [] =>True
 |k,r::rs=>(qbs P (16*k) r=r/\r.length<=16)/\qAl P (k+1) rs
theorem qok{T:Tb}{t:TypeId}{i:TI}(h:qhG T t=some i): ∃l,T[t/16]? =some l/\l[t%16]? =some (some i):=by
 unfold qhG at h
 rw [qbU] at h
 split at h
 ·rename_i l hl
  rw [qbU] at h
  split at h
  ·rename_i j hj;exact ⟨l,hl,by rw [hj,h]⟩
  ·simp at h
 ·simp at h
theorem qvJ{P:Program}: ∀(T:Tb) (k:Nat),qAl P k T-> ∀(a b:Nat) (l:List (Option TI)) (i:TI),T[a]? =some l->l[b]? =some (some i)->qrI P (16*(k+a)+b) i:=by
 intro T
 induction T with
 |nil=>intro k h a b l i e1;simp at e1
 |cons r rs ih=>
  intro k h a b l i e1 e2
  unfold qAl at h
  cases a with
  |zero=>
   have hr:r=l:=Option.some.inj e1
   rw [<-hr] at e2
   have:=qjz h.1.1 b i e2
   exact this
  |succ a=>
   have:=ih (k+1) h.2 a b l i e1 e2
   have e':16*(k+1+a)+b=16*(k+(a+1))+b:=by rw [Nat.add_right_comm k 1 a];rfl
   exact e'▸this
theorem qwt{P:Program}{T:Tb}(h:qAl P 0 T):qcM P T:=by
 intro t i h'
 obtain ⟨l,h1,h2⟩:=qok h'
 have:=qvJ T 0 h (t/16) (t%16) l i h1 h2
 have e':16*(0+t/16)+t%16=t:=by rw [Nat.zero_add];exact Nat.div_add_mod t 16
 exact e'▸this
def ti0:TI:=⟨1,0,false,false,false,none,none, [],none,none,false,none,none⟩
def ti3:TI:=⟨1,8,false,false,false,some .i64,none, [],some [zI],none,true,none,none⟩
def ti4:TI:=⟨1,1,false,false,true,none,none, [],some [zB],none,false,none,none⟩
def ti5:TI:=⟨1,1,false,false,false,some .u8,none, [],some [D.v (Value.int IntKind.u8 (0))],none,true,none,none⟩
def ti9:TI:=⟨1,16,false,true,false,none,none, [],some [zS],none,false,none,none⟩
def qE1:TI:=⟨1,16,false,false,false,none,none, [],some [D.v Value.nilIface],none,false,none,none⟩
def qCZ:TI:=⟨3,40,true,false,false,none,none, [(0,4),(1,9),(2,9)],some [zB,zS,zS],some [(0,1),(1,1),(2,1)],true,some [1,2,2],none⟩
def qr9:TI:=⟨6,80,true,false,false,none,none, [(0,23),(3,23)],some [zB,zS,zS,zB,zS,zS],some [(0,3),(3,3)],true,some [1,2,2,1,2,2],none⟩
def qwU:TI:=⟨12,160,true,false,false,none,none, [(0,25),(6,25)],some [zB,zS,zS,zB,zS,zS,zB,zS,zS,zB,zS,zS],some [(0,6),(6,6)],false,some [1,2,2,1,2,2,1,2,2,1,2,2],none⟩
def qES:TI:=⟨1,24,false,false,false,none,some 45, [],some [D.v (Value.slice none 0 0)],none,false,none,none⟩
def qFc:TI:=⟨13,184,true,false,false,none,none, [(0,27),(12,28)],some [zB,zS,zS,zB,zS,zS,zB,zS,zS,zB,zS,zS,D.v (Value.slice none 0 0)],some [(0,12),(12,1)],false,none,none⟩
def qEE:TI:=⟨1,8,false,false,false,none,none, [],some [D.v Value.nilFunc],none,false,none,none⟩
def qEm:TI:=⟨1,8,false,false,false,none,none, [],some [D.v Value.nilFunc],none,false,none,none⟩
def qE2:TI:=⟨1,8,false,false,false,some .i64,none, [],some [zI],none,false,none,none⟩
def qEj:TI:=⟨1,0,false,false,false,none,none, [],none,none,false,none,none⟩
def qEv:TI:=⟨1,8,false,false,false,none,none, [],some [D.v Value.nilFunc],none,false,none,none⟩
def qET:TI:=⟨1,24,false,false,false,none,some 25, [],some [D.v (Value.slice none 0 0)],none,true,none,none⟩
def qE3:TI:=⟨1,24,false,false,false,none,some 40, [],some [D.v (Value.slice none 0 0)],none,false,none,none⟩
def qER:TI:=⟨2,48,true,false,false,none,none, [(0,40),(1,41)],some [D.v (Value.slice none 0 0),D.v (Value.slice none 0 0)],some [(0,1),(1,1)],true,none,none⟩
def qEM:TI:=⟨3,64,true,false,false,none,none, [(0,9),(1,43)],some [zS,D.v (Value.slice none 0 0),D.v (Value.slice none 0 0)],some [(0,1),(1,2)],true,none,none⟩
def qEG:TI:=⟨1,8,false,false,false,none,none, [],some [D.v Value.nilFunc],none,false,none,none⟩
def qEQ:TI:=⟨1,24,false,false,false,none,some 43, [],some [D.v (Value.slice none 0 0)],none,false,none,none⟩
def qE9:TI:=⟨1,0,false,false,false,none,none, [],none,none,false,none,none⟩
def qEU:TI:=⟨1,0,false,false,false,none,none, [],none,none,false,none,none⟩
def qEF:TI:=⟨1,0,false,false,false,none,none, [],none,none,false,none,none⟩
def qEZ:TI:=⟨1,0,false,false,false,none,none, [],none,none,false,none,none⟩
def qEC:TI:=⟨1,24,false,false,false,none,some 23, [],some [D.v (Value.slice none 0 0)],none,true,none,none⟩
def qFb:TI:=⟨1,24,false,false,false,none,some 3, [],some [D.v (Value.slice none 0 0)],none,true,none,none⟩
def qEo:TI:=⟨1,0,false,false,false,none,none, [],none,none,false,none,none⟩
def qEt:TI:=⟨1,0,false,false,false,none,none, [],none,none,false,none,none⟩
def qE0:TI:=⟨1,8,false,false,false,none,none, [],some [D.v Value.nilFunc],none,false,none,none⟩
def qEK:TI:=⟨2,24,true,false,false,none,none, [(0,4),(1,9)],some [zB,zS],some [(0,1),(1,1)],false,some [1,2],none⟩
def qEH:TI:=⟨4,48,true,false,false,none,none, [(0,96),(2,96)],some [zB,zS,zB,zS],some [(0,2),(2,2)],false,some [1,2,1,2],none⟩
def qBA:TI:=⟨1,8,false,false,false,none,none, [],some [D.v Value.nilFunc],none,false,none,none⟩
def qCI:TI:=⟨1,8,false,false,false,none,none, [],some [D.v Value.nilFunc],none,false,none,none⟩
def qC4:TI:=⟨1,8,false,false,false,none,none, [],some [D.v Value.nilFunc],none,false,none,none⟩
def qBH:TI:=⟨1,8,false,false,false,none,none, [],some [D.v Value.nilFunc],none,false,none,none⟩
def qCd:TI:=⟨1,8,false,false,false,none,none, [],some [D.v Value.nilFunc],none,false,none,none⟩
def qDv:TI:=⟨1,8,false,false,false,none,none, [],some [D.v Value.nilFunc],none,false,none,none⟩
def qCu:TI:=⟨1,8,false,false,false,none,none, [],some [D.v Value.nilFunc],none,false,none,none⟩
def qCU:TI:=⟨1,8,false,false,false,none,none, [],some [D.v Value.nilFunc],none,false,none,none⟩
def qCE:TI:=⟨1,8,false,false,false,none,none, [],some [D.v Value.nilFunc],none,false,none,none⟩
def qBy:TI:=⟨1,8,false,false,false,none,none, [],some [D.v Value.nilFunc],none,false,none,none⟩
def qBU:TI:=⟨1,0,false,false,false,none,none, [],none,none,false,none,none⟩
def qBe:TI:=⟨1,24,false,false,false,none,some 192, [],some [D.v (Value.slice none 0 0)],none,false,none,none⟩
def qCM:TI:=⟨1,0,false,false,false,none,none, [],none,none,false,none,none⟩
def qDb:TI:=⟨1,24,false,false,false,none,some 214, [],some [D.v (Value.slice none 0 0)],none,false,none,none⟩
def qBY:TI:=⟨1,24,false,false,false,none,some 78, [],some [D.v (Value.slice none 0 0)],none,false,none,none⟩
def qC7:TI:=⟨1,24,false,false,false,none,some 79, [],some [D.v (Value.slice none 0 0)],none,false,none,none⟩
def qBg:TI:=⟨16,256,true,false,false,none,none, [(0,27),(12,155),(13,78),(14,156),(15,157)],some [zB,zS,zS,zB,zS,zS,zB,zS,zS,zB,zS,zS,D.v (Value.slice none 0 0),D.v (Value.slice none 0 0),D.v (Value.slice none 0 0),D.v (Value.slice none 0 0)],some [(0,12),(12,1),(13,1),(14,1),(15,1)],false,none,none⟩
def qBV:TI:=⟨1,0,false,false,false,none,none, [],none,none,false,none,none⟩
def qAH:TI:=⟨1,8,false,false,false,none,none, [],some [D.v Value.nilFunc],none,false,none,none⟩
def qDl:TI:=⟨1,8,false,false,false,none,none, [],some [D.v Value.nilFunc],none,false,none,none⟩
def qAO:TI:=⟨1,24,false,false,false,none,some 175, [],some [D.v (Value.slice none 0 0)],none,false,none,none⟩
def qCK:TI:=⟨3,24,true,false,false,none,none, [(0,3),(1,3),(2,3)],some [zI,zI,zI],some [(0,1),(1,1),(2,1)],true,some [6,6,6],none⟩
def qA1:TI:=⟨1,0,false,false,false,none,none, [],none,none,false,none,none⟩
def qB6:TI:=⟨1,8,false,false,false,none,none, [],some [D.v Value.nilFunc],none,false,none,none⟩
def qDe:TI:=⟨1,8,false,false,false,none,none, [],some [D.v Value.nilFunc],none,false,none,none⟩
def qBL:TI:=⟨1,8,false,false,false,none,none, [],some [D.v Value.nilFunc],none,false,none,none⟩
def qB5:TI:=⟨1,8,false,false,false,some .u64,none, [],some [D.v (Value.int IntKind.u64 (0))],none,false,none,none⟩
def qB1:TI:=⟨1,4,false,false,false,some .u32,none, [],some [D.v (Value.int IntKind.u32 (0))],none,true,none,none⟩
def qA4:TI:=⟨1,8,false,false,false,some .u64,none, [],some [D.v (Value.int IntKind.u64 (0))],none,false,none,none⟩
def qBk:TI:=⟨8,8,true,false,false,none,none, [],some [D.v (Value.int IntKind.u8 (0)),D.v (Value.int IntKind.u8 (0)),D.v (Value.int IntKind.u8 (0)),D.v (Value.int IntKind.u8 (0)),D.v (Value.int IntKind.u8 (0)),D.v (Value.int IntKind.u8 (0)),D.v (Value.int IntKind.u8 (0)),D.v (Value.int IntKind.u8 (0))],some [(0,1),(1,1),(2,1),(3,1),(4,1),(5,1),(6,1),(7,1)],false,none,some (8,5)⟩
def qBB:TI:=⟨1,24,false,false,false,none,some 5, [],some [D.v (Value.slice none 0 0)],none,false,none,none⟩
def qBG:TI:=⟨1,0,false,false,false,none,none, [],none,none,false,none,none⟩
def qCf:TI:=⟨1,0,false,false,false,none,none, [],none,none,false,none,none⟩
def qAJ:TI:=⟨1,8,false,false,false,none,none, [],some [D.v Value.nilFunc],none,false,none,none⟩
def qBN:TI:=⟨1,8,false,false,false,none,none, [],some [D.v Value.nilFunc],none,false,none,none⟩
def qDn:TI:=⟨1,8,false,false,false,none,none, [],some [D.v Value.nilFunc],none,false,none,none⟩
def qCH:TI:=⟨12,160,true,false,false,none,none, [(0,25),(6,25)],some [zB,zS,zS,zB,zS,zS,zB,zS,zS,zB,zS,zS],some [(0,6),(6,6)],true,some [1,2,2,1,2,2,1,2,2,1,2,2],none⟩
def qDE:TI:=⟨1,0,false,false,false,none,none, [],none,none,false,none,none⟩
def qC9:TI:=⟨1,8,false,false,false,none,none, [],some [D.v Value.nilFunc],none,false,none,none⟩
def qBZ:TI:=⟨1,0,false,false,false,none,none, [],none,none,false,none,none⟩
def qDq:TI:=⟨1,8,false,false,false,none,none, [],some [D.v Value.nilFunc],none,false,none,none⟩
def qDx:TI:=⟨1,8,false,false,false,none,none, [],some [D.v Value.nilFunc],none,false,none,none⟩
def qC0:TI:=⟨1,0,false,false,false,none,none, [],none,none,false,none,none⟩
def qCN:TI:=⟨1,8,false,false,false,none,none, [],some [D.v Value.nilFunc],none,false,none,none⟩
def qDr:TI:=⟨1,24,false,false,false,none,some 305, [],some [D.v (Value.slice none 0 0)],none,false,none,none⟩
def qAU:TI:=⟨13,184,true,false,false,none,none, [(0,27),(12,251)],some [zB,zS,zS,zB,zS,zS,zB,zS,zS,zB,zS,zS,D.v (Value.slice none 0 0)],some [(0,12),(12,1)],false,none,none⟩
def qBs:TI:=⟨1,8,false,false,false,none,none, [],some [D.v Value.nilFunc],none,false,none,none⟩
def qCb:TI:=⟨1,0,false,false,false,none,none, [],none,none,false,none,none⟩
def qDk:TI:=⟨1,0,false,false,false,none,none, [],none,none,false,none,none⟩
def qBO:TI:=⟨13,168,true,false,false,none,none, [(0,214),(12,3)],some [zB,zS,zS,zB,zS,zS,zB,zS,zS,zB,zS,zS,zI],some [(0,12),(12,1)],true,none,none⟩
def qCT:TI:=⟨1,0,false,false,false,none,none, [],none,none,false,none,none⟩
def qDp:TI:=⟨1,24,false,false,false,none,some 311, [],some [D.v (Value.slice none 0 0)],none,false,none,none⟩
def qBv:TI:=⟨4,48,true,false,false,none,none, [(0,23),(3,3)],some [zB,zS,zS,zI],some [(0,3),(3,1)],true,none,none⟩
def qDd:TI:=⟨1,8,false,false,false,none,none, [],some [D.v Value.nilFunc],none,false,none,none⟩
def qB8:TI:=⟨1,8,false,false,false,none,none, [],some [D.v Value.nilFunc],none,false,none,none⟩
def qBJ:TI:=⟨1,8,false,false,false,none,none, [],some [D.v Value.nilFunc],none,false,none,none⟩
def qBD:TI:=⟨1,8,false,false,false,none,none, [],some [D.v Value.nilFunc],none,false,none,none⟩
def qC1:TI:=⟨1,8,false,false,false,none,none, [],some [D.v Value.nilFunc],none,false,none,none⟩
def qAP:TI:=⟨1,8,false,false,false,none,none, [],some [D.v Value.nilFunc],none,false,none,none⟩
def qCg:TI:=⟨3,24,true,false,false,none,none, [(0,321),(1,322),(2,323)],some [D.v Value.nilFunc,D.v Value.nilFunc,D.v Value.nilFunc],some [(0,1),(1,1),(2,1)],false,none,none⟩
def qBC:TI:=⟨12,96,true,false,false,none,none, [],some [D.v Value.nilFunc,D.v Value.nilFunc,D.v Value.nilFunc,D.v Value.nilFunc,D.v Value.nilFunc,D.v Value.nilFunc,D.v Value.nilFunc,D.v Value.nilFunc,D.v Value.nilFunc,D.v Value.nilFunc,D.v Value.nilFunc,D.v Value.nilFunc],some [(0,3),(3,3),(6,3),(9,3)],false,none,some (4,325)⟩
def qB0:TI:=⟨1,8,false,false,false,none,none, [],some [D.v Value.nilFunc],none,false,none,none⟩
def qA7:TI:=⟨1,8,false,false,false,none,none, [],some [D.v Value.nilFunc],none,false,none,none⟩
def qAF:TI:=⟨1,0,false,false,false,none,none, [],none,none,false,none,none⟩
def qAQ:TI:=⟨1,8,false,false,false,some .i64,none, [],some [zI],none,false,none,none⟩
def qBd:TI:=⟨1,0,false,false,false,none,none, [],none,none,false,none,none⟩
def qCP:TI:=⟨8,128,true,false,false,none,none, [],some [zS,zS,zS,zS,zS,zS,zS,zS],some [(0,1),(1,1),(2,1),(3,1),(4,1),(5,1),(6,1),(7,1)],false,none,some (8,9)⟩
def qCk:TI:=⟨1,16,false,false,false,none,none, [],some [D.v Value.nilIface],none,false,none,none⟩
def qDf:TI:=⟨1,8,false,false,false,none,none, [],some [D.v Value.nilFunc],none,false,none,none⟩
def qA3:TI:=⟨1,8,false,false,false,none,none, [],some [D.v Value.nilFunc],none,false,none,none⟩
def qDc:TI:=⟨4,32,true,false,false,none,none, [],some [D.v Value.nilFunc,D.v Value.nilFunc,D.v Value.nilFunc,D.v Value.nilFunc],some [(0,1),(1,1),(2,1),(3,1)],false,none,some (4,359)⟩
def qBp:TI:=⟨1,8,false,false,false,none,none, [],some [D.v Value.nilFunc],none,false,none,none⟩
def qCR:TI:=⟨1,8,false,false,false,none,none, [],some [D.v Value.nilFunc],none,false,none,none⟩
def qA8:TI:=⟨1,8,false,false,false,none,none, [],some [D.v Value.nilFunc],none,false,none,none⟩
def qCL:TI:=⟨1,8,false,false,false,none,none, [],some [D.v Value.nilFunc],none,false,none,none⟩
def qCn:TI:=⟨1,8,false,false,false,some .u64,none, [],some [D.v (Value.int IntKind.u64 (0))],none,false,none,none⟩
def qDj:TI:=⟨1,8,false,false,false,none,none, [],none,none,false,none,none⟩
def qDA:TI:=⟨1,8,false,false,false,none,none, [],some [D.v Value.nilFunc],none,false,none,none⟩
def qDw:TI:=⟨1,8,false,false,false,none,none, [],none,none,false,none,none⟩
def rw0:List (Option TI):= [some ti0,none,none,some ti3,some ti4,some ti5,none,none,none,some ti9,none,none,none,none,none,none]
theorem rk0:qbs Tryz.prog (16*0) rw0=rw0:=by kernel_rfl
def rw1:List (Option TI):= [none,none,none,none,some qE1,none,none,some qCZ,none,some qr9,none,some qwU,some qES,none,some qFc,none]
theorem rk1:qbs Tryz.prog (16*1) rw1=rw1:=by kernel_rfl
def rw2:List (Option TI):= [none,some qEE,some qEm,some qE2,some qEj,none,none,some qEv,some qET,some qE3,none,some qER,none,some qEM,none,none]
theorem rk2:qbs Tryz.prog (16*2) rw2=rw2:=by kernel_rfl
def rw3:List (Option TI):= [none,some qEG,none,some qEQ,some qE9,none,some qEU,none,none,none,none,none,none,none,none,some qEF]
theorem rk3:qbs Tryz.prog (16*3) rw3=rw3:=by kernel_rfl
def rw4:List (Option TI):= [none,none,none,none,none,none,none,some qEZ,none,none,none,none,none,none,some qEC,some qFb]
theorem rk4:qbs Tryz.prog (16*4) rw4=rw4:=by kernel_rfl
def rw5:List (Option TI):= [none,none,some qEo,none,none,some qEt,none,none,none,none,none,none,none,none,some qE0,none]
theorem rk5:qbs Tryz.prog (16*5) rw5=rw5:=by kernel_rfl
def rw6:List (Option TI):= [some qEK,none,some qEH,none,none,some qBA,none,none,none,none,some qCI,some qC4,none,none,none,some qBH]
theorem rk6:qbs Tryz.prog (16*6) rw6=rw6:=by kernel_rfl
def rw7:List (Option TI):= [none,none,none,none,none,none,some qCd,none,none,none,some qDv,some qCu,none,none,none,none]
theorem rk7:qbs Tryz.prog (16*7) rw7=rw7:=by kernel_rfl
def rw8:List (Option TI):= [none,some qCU,none,none,none,none,some qCE,some qBy,none,none,none,none,none,none,none,none]
theorem rk8:qbs Tryz.prog (16*8) rw8=rw8:=by kernel_rfl
def rw9:List (Option TI):= [some qBU,none,none,none,none,some qBe,none,none,none,some qCM,none,some qDb,some qBY,some qC7,none,some qBg]
theorem rk9:qbs Tryz.prog (16*9) rw9=rw9:=by kernel_rfl
def qBc:List (Option TI):= [some qBV,none,none,some qAH,none,none,none,some qDl,none,none,none,none,some qAO,none,none,some qCK]
theorem qEu:qbs Tryz.prog (16*10) qBc=qBc:=by kernel_rfl
def qB3:List (Option TI):= [none,none,none,some qA1,none,none,none,none,none,some qB6,none,none,some qDe,some qBL,none,some qB5]
theorem qEN:qbs Tryz.prog (16*11) qB3=qB3:=by kernel_rfl
def qCA:List (Option TI):= [some qB1,some qA4,none,some qBk,some qBB,none,none,none,some qBG,none,none,none,some qCf,none,some qAJ,some qBN]
theorem qE4:qbs Tryz.prog (16*12) qCA=qCA:=by kernel_rfl
def qCy:List (Option TI):= [none,none,none,some qDn,none,none,some qCH,some qDE,none,none,none,some qC9,none,none,none,none]
theorem qEg:qbs Tryz.prog (16*13) qCy=qCy:=by kernel_rfl
def qCp:List (Option TI):= [none,none,none,none,none,none,none,none,none,none,none,none,none,none,none,none]
theorem qE6:qbs Tryz.prog (16*14) qCp=qCp:=by kernel_rfl
def qB2:List (Option TI):= [some qBZ,none,some qDq,some qDx,some qC0,none,none,none,none,none,some qCN,some qDr,none,none,some qAU,none]
theorem qED:qbs Tryz.prog (16*15) qB2=qB2:=by kernel_rfl
def qAM:List (Option TI):= [none,none,none,some qBs,some qCb,none,none,none,none,none,none,none,none,none,none,none]
theorem qEs:qbs Tryz.prog (16*16) qAM=qAM:=by kernel_rfl
def qAZ:List (Option TI):= [none,none,none,none,none,none,none,none,none,none,none,none,none,none,none,none]
theorem qEL:qbs Tryz.prog (16*17) qAZ=qAZ:=by kernel_rfl
def qCc:List (Option TI):= [none,none,none,none,none,none,none,none,none,none,none,some qDk,none,none,none,none]
theorem qEA:qbs Tryz.prog (16*18) qCc=qCc:=by kernel_rfl
def qBX:List (Option TI):= [none,some qBO,none,some qCT,none,some qDp,none,some qBv,none,none,none,some qDd,none,some qB8,some qBJ,none]
theorem qEx:qbs Tryz.prog (16*19) qBX=qBX:=by kernel_rfl
def qDD:List (Option TI):= [none,some qBD,some qC1,some qAP,none,some qCg,some qBC,none,some qB0,some qA7,none,none,some qAF,none,none,none]
theorem qEO:qbs Tryz.prog (16*20) qDD=qDD:=by kernel_rfl
def qC8:List (Option TI):= [none,none,none,none,none,none,none,some qAQ,some qBd,none,none,none,none,none,none,none]
theorem qEw:qbs Tryz.prog (16*21) qC8=qC8:=by kernel_rfl
def qBR:List (Option TI):= [none,none,none,some qCP,none,some qCk,some qDf,some qA3,some qDc,none,none,none,none,none,some qBp,some qCR]
theorem qEn:qbs Tryz.prog (16*22) qBR=qBR:=by kernel_rfl
def qAT:List (Option TI):= [none,some qA8,none,some qCL,none,none,none,none,none,none,none,none,some qCn,none,none,none]
theorem qEr:qbs Tryz.prog (16*23) qAT=qAT:=by kernel_rfl
def qBj:List (Option TI):= [some qDj,none,none,none,none,none,none,none,none,none,none,none,some qDA,none,none,none]
theorem qEI:qbs Tryz.prog (16*24) qBj=qBj:=by kernel_rfl
def qCs:List (Option TI):= [none,none,none,none,some qDw,none,none,none,none,none,none,none,none,none,none,none]
theorem qFd:qbs Tryz.prog (16*25) qCs=qCs:=by kernel_rfl
def qB9:List (Option TI):= [none,none,none,none,none,none,none,none,none,none,none,none,none,none,none,none]
theorem qE7:qbs Tryz.prog (16*26) qB9=qB9:=by kernel_rfl
def qBx:List (Option TI):= [none,none,none,none,none,none,none,none,none,none,none,none,none,none,none,none]
theorem qEW:qbs Tryz.prog (16*27) qBx=qBx:=by kernel_rfl
def qCt:List (Option TI):= [none]
theorem qEP:qbs Tryz.prog (16*28) qCt=qCt:=by kernel_rfl
def tbl:Tb:= [rw0,rw1,rw2,rw3,rw4,rw5,rw6,rw7,rw8,rw9,qBc,qB3,qCA,qCy,qCp,qB2,qAM,qAZ,qCc,qBX,qDD,qC8,qBR,qAT,qBj,qCs,qB9,qBx,qCt]
theorem tOk:qcM Tryz.prog tbl:=qwt ⟨⟨rk0,by decide⟩,⟨rk1,by decide⟩,⟨rk2,by decide⟩,⟨rk3,by decide⟩,⟨rk4,by decide⟩,⟨rk5,by decide⟩,⟨rk6,by decide⟩,⟨rk7,by decide⟩,⟨rk8,by decide⟩,⟨rk9,by decide⟩,⟨qEu,by decide⟩,⟨qEN,by decide⟩,⟨qE4,by decide⟩,⟨qEg,by decide⟩,⟨qE6,by decide⟩,⟨qED,by decide⟩,⟨qEs,by decide⟩,⟨qEL,by decide⟩,⟨qEA,by decide⟩,⟨qEx,by decide⟩,⟨qEO,by decide⟩,⟨qEw,by decide⟩,⟨qEn,by decide⟩,⟨qEr,by decide⟩,⟨qEI,by decide⟩,⟨qFd,by decide⟩,⟨qE7,by decide⟩,⟨qEW,by decide⟩,⟨qEP,by decide⟩,trivial⟩
end Go.Nv
end
