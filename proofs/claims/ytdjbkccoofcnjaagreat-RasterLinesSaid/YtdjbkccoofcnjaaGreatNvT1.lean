import Derived.KernelRfl
import Derived.Test.YtdjbkccoofcnjaaGreatProg
import Derived.Test.YtdjbkccoofcnjaaGreatNvN3
set_option linter.all false
set_option maxRecDepth 100000
section
namespace Go.Nv
open Go.Proofs
theorem mixed:Tryz.prog.follows .mixedOrders=true:=by kernel_rfl
def elemOkB(P:Program)(e:TypeId)(size bytes:Nat):Bool:=
 match P.info? e with
 |some i=>match i.zero with|some z=>i.size==size&&i.bytes==bytes&&z.cells.size==size|none=>false
 |none=>false
theorem elemOk_of{P:Program}{e:TypeId}{size bytes:Nat}(h:elemOkB P e size bytes=true):ElemOk P e size bytes:=by
 unfold elemOkB at h
 split at h
 ·rename_i i hi
  split at h
  ·rename_i z hz
   simp only [Bool.and_eq_true,beq_iff_eq] at h
   exact ⟨i,z,hi,hz,h.1.1,h.1.2,h.2⟩
  ·simp at h
 ·simp at h
def fieldsOk(P:Program)(t:TypeId)(fs:List (Nat×TypeId)):Bool:=
 match P.underlying t with
 |some (.struct l)=>decide (l.toList.map (fun x=>(x.offset,x.type))=fs)
 |_=>false
theorem fields_of{P:Program}{t:TypeId}{fs:List (Nat×TypeId)}(h:fieldsOk P t fs=true)(f:Nat):fieldOff P t f=fs[f]? :=by
 unfold fieldsOk at h
 unfold fieldOff
 split at h
 ·rename_i l hl
  simp only [decide_eq_true_eq] at h
  rw [hl, ←h]
  simp [List.getElem?_map]
 ·simp at h
abbrev zS:D:= .v (.string {data:={toList:= [] }})
abbrev zB:D:= .v (.bool false)
abbrev zN:D:= .v (.slice none 0 0)
abbrev zI:D:= .v (.int .i64 (0))
def isStrT(P:Program)(t:TypeId):Bool:=match P.underlying t with|some .string=>true|_=>false
def isBooT(P:Program)(t:TypeId):Bool:=match P.underlying t with|some .bool=>true|_=>false
def stfT(P:Program)(t:TypeId):List (Nat×TypeId):=match P.underlying t with|some (.struct l)=>l.toList.map (fun x=>(x.offset,x.type))|_=> []
def isStT(P:Program)(t:TypeId):Bool:=match P.underlying t with|some (.struct _)=>true|_=>false
def fill(P:Program)(t:TypeId)(i:TI):TI:=
 ⟨if (P.underlying t).isSome then P.cellsOf t else i.cells+1,P.bytesOf t,isAggT P t,i.str&&isStrT P t,i.boo&&isBooT P t,
  match i.ik with|none=>none|some _=>intKindOf P t,match i.elem with|none=>none|some _=>elemT P t,
  match i.fields with| [] => [] |x::xs=>if isStT P t then stfT P t else (x::x::xs),
  match i.zero with|none=>none|some _=>zeroCells P t,match i.plcs with|none=>none|some _=>plcs P t,
  i.eok&&elemOkB P t i.cells i.bytes,
  match i.eqk with|none=>none|some _=>if isAggT P t&& !P.eqGuardType P.depth t then skinds P 20 t else none,
  match i.arr with|none=>none|some _=>arrT P t⟩
theorem tok_of{P:Program}{t:TypeId}{i:TI}(h:fill P t i=i):TIok P t i:=by
 have c:=congrArg TI.cells h
 have hu:(P.underlying t).isSome=true:=by
  simp only [fill] at c
  split at c
  ·assumption
  ·omega
 refine ⟨hu, ?_,congrArg TI.bytes h,congrArg TI.agg h,fun e=> ?_,fun e=> ?_, ?_, ?_, ?_, ?_, ?_,fun e=> ?_,fun ks e=> ?_, ?_⟩
 ·simp only [fill,hu,if_true] at c;exact c
 ·have:=congrArg TI.str h
  simp only [fill,e,Bool.true_and,isStrT] at this
  split at this
  ·assumption
  ·simp at this
 ·have:=congrArg TI.boo h
  simp only [fill,e,Bool.true_and,isBooT] at this
  split at this
  ·assumption
  ·simp at this
 ·have:=congrArg TI.ik h
  simp only [fill] at this
  cases hk:i.ik with
  |none=>exact .inl rfl
  |some x=>rw [hk] at this;exact .inr this
 ·have:=congrArg TI.elem h
  simp only [fill] at this
  cases hk:i.elem with
  |none=>exact .inl rfl
  |some x=>rw [hk] at this;exact .inr this
 ·have:=congrArg TI.fields h
  simp only [fill] at this
  cases hk:i.fields with
  |nil=>exact .inl rfl
  |cons x xs=>
   rw [hk] at this
   simp only at this
   split at this
   ·rename_i hs
    refine .inr (fields_of ?_)
    unfold isStT at hs
    unfold stfT at this
    unfold fieldsOk
    split at hs
    ·rename_i l hl;rw [hl] at this;exact decide_eq_true this
    ·simp at hs
   ·exact absurd (congrArg List.length this) (by simp)
 ·have:=congrArg TI.zero h
  simp only [fill] at this
  cases hk:i.zero with
  |none=>exact .inl rfl
  |some x=>rw [hk] at this;exact .inr this
 ·have:=congrArg TI.plcs h
  simp only [fill] at this
  cases hk:i.plcs with
  |none=>exact .inl rfl
  |some x=>rw [hk] at this;exact .inr this
 ·have:=congrArg TI.eok h
  simp only [fill,e,Bool.true_and] at this
  exact elemOk_of this
 ·have:=congrArg TI.eqk h
  simp only [fill,e] at this
  split at this
  ·rename_i hc
   simp only [Bool.and_eq_true,Bool.not_eq_true'] at hc
   exact structEq_of this hc.1 hc.2
  ·simp at this
 ·have:=congrArg TI.arr h
  simp only [fill] at this
  cases hk:i.arr with
  |none=>exact .inl rfl
  |some x=>rw [hk] at this;exact .inr this
def fillL(P:Program):TypeId→List (Option TI)→List (Option TI)
 |_, [] => []
 |t,none::l=>none::fillL P (t+1) l
 |t,some i::l=>some (fill P t i)::fillL P (t+1) l
theorem fillL_ok{P:Program}: ∀{l:List (Option TI)} {t:TypeId},fillL P t l=l→ ∀(j:Nat) (i:TI),l[j]? =some (some i)→TIok P (t+j) i
 |none::l,t,h,0,i,e=>by simp at e
 |some k::l,t,h,0,i,e=>by
  simp at e;subst e
  simp only [fillL,List.cons.injEq,Option.some.injEq] at h
  exact tok_of h.1
 |none::l,t,h,j+1,i,e=>by
  simp only [fillL,List.cons.injEq,true_and] at h
  have:=fillL_ok h j i (by simpa using e)
  have e':t+1+j=t+(j+1):=(Nat.add_right_comm t j 1).symm
  exact e'▸this
 |some k::l,t,h,j+1,i,e=>by
  simp only [fillL,List.cons.injEq] at h
  have:=fillL_ok h.2 j i (by simpa using e)
  have e':t+1+j=t+(j+1):=(Nat.add_right_comm t j 1).symm
  exact e'▸this
def chkT(P:Program):Nat→Tb→Prop
 |_, [] =>True
 |k,r::rs=>(fillL P (16*k) r=r∧r.length≤16)∧chkT P (k+1) rs
theorem tinfo_some{T:Tb}{t:TypeId}{i:TI}(h:tinfo T t=some i): ∃l,T[t/16]? =some l∧l[t%16]? =some (some i):=by
 unfold tinfo at h
 rw [lkO_eq] at h
 split at h
 ·rename_i l hl
  rw [lkO_eq] at h
  split at h
  ·rename_i j hj;exact ⟨l,hl,by rw [hj,h]⟩
  ·simp at h
 ·simp at h
theorem chkT_ok{P:Program}: ∀(T:Tb) (k:Nat),chkT P k T→ ∀(a b:Nat) (l:List (Option TI)) (i:TI),T[a]? =some l→l[b]? =some (some i)→TIok P (16*(k+a)+b) i:=by
 intro T
 induction T with
 |nil=>intro k h a b l i e1;simp at e1
 |cons r rs ih=>
  intro k h a b l i e1 e2
  unfold chkT at h
  cases a with
  |zero=>
   have hr:r=l:=Option.some.inj e1
   rw [←hr] at e2
   have:=fillL_ok h.1.1 b i e2
   exact this
  |succ a=>
   have:=ih (k+1) h.2 a b l i e1 e2
   have e':16*(k+1+a)+b=16*(k+(a+1))+b:=by rw [Nat.add_right_comm k 1 a];rfl
   exact e'▸this
theorem tbOk_of{P:Program}{T:Tb}(h:chkT P 0 T):TbOk P T:=by
 intro t i h'
 obtain ⟨l,h1,h2⟩:=tinfo_some h'
 have:=chkT_ok T 0 h (t/16) (t%16) l i h1 h2
 have e':16*(0+t/16)+t%16=t:=by rw [Nat.zero_add];exact Nat.div_add_mod t 16
 exact e'▸this
def ti0:TI:=⟨1,0,false,false,false,none,none, [],none,none,false,none,none⟩
def ti1:TI:=⟨1,8,false,false,false,none,none, [],some [D.v Value.nilFunc],none,false,none,none⟩
def ti2:TI:=⟨1,8,false,false,false,some .i64,none, [],some [zI],none,false,none,none⟩
def ti3:TI:=⟨1,8,false,false,false,some .i64,none, [],some [zI],none,true,none,none⟩
def ti4:TI:=⟨1,1,false,false,true,none,none, [],some [zB],none,true,none,none⟩
def ti5:TI:=⟨1,1,false,false,false,some .u8,none, [],some [D.v (Value.int IntKind.u8 (0))],none,true,none,none⟩
def ti6:TI:=⟨1,1,false,false,false,some .u8,none, [],some [D.v (Value.int IntKind.u8 (0))],none,false,none,none⟩
def ti7:TI:=⟨4,24,true,false,false,none,none, [(0,2),(1,3),(2,4),(3,6)],some [zI,zI,zB,D.v (Value.int IntKind.u8 (0))],some [(0,1),(1,1),(2,1),(3,1)],false,some [6,6,1,7],none⟩
def ti8:TI:=⟨4,24,true,false,false,none,none, [(0,2),(1,3),(2,4),(3,6)],some [zI,zI,zB,D.v (Value.int IntKind.u8 (0))],some [(0,1),(1,1),(2,1),(3,1)],false,some [6,6,1,7],none⟩
def ti9:TI:=⟨1,16,false,true,false,none,none, [],some [zS],none,false,none,none⟩
def ti10:TI:=⟨1,16,false,true,false,none,none, [],some [zS],none,false,none,none⟩
def ti11:TI:=⟨1,16,false,true,false,none,none, [],some [zS],none,false,none,none⟩
def ti12:TI:=⟨1,8,false,false,false,some .u64,none, [],some [D.v (Value.int IntKind.u64 (0))],none,false,none,none⟩
def ti13:TI:=⟨2,24,true,false,false,none,none, [(0,9),(1,12)],some [zS,D.v (Value.int IntKind.u64 (0))],some [(0,1),(1,1)],false,none,none⟩
def ti14:TI:=⟨2,24,true,false,false,none,none, [(0,9),(1,12)],some [zS,D.v (Value.int IntKind.u64 (0))],some [(0,1),(1,1)],false,none,none⟩
def ti15:TI:=⟨1,8,false,false,false,none,none, [],none,none,false,none,none⟩
def ti16:TI:=⟨1,8,false,false,false,none,none, [],none,none,false,none,none⟩
def ti17:TI:=⟨1,8,false,false,false,none,none, [],none,none,false,none,none⟩
def ti18:TI:=⟨1,8,true,false,false,none,none, [(0,17)],none,none,false,none,none⟩
def ti19:TI:=⟨1,8,true,false,false,none,none, [(0,17)],none,none,false,none,none⟩
def ti20:TI:=⟨1,16,false,false,false,none,none, [],some [D.v Value.nilIface],none,false,none,none⟩
def ti21:TI:=⟨1,4,false,false,false,some .i32,none, [],some [D.v (Value.int IntKind.i32 (0))],none,false,none,none⟩
def ti22:TI:=⟨1,24,false,false,false,none,some 29, [],some [zN],none,true,none,none⟩
def ti23:TI:=⟨1,24,false,false,false,none,some 22, [],some [zN],none,false,none,none⟩
def ti24:TI:=⟨2,48,true,false,false,none,none, [(0,22),(1,23)],some [zN,zN],some [(0,1),(1,1)],false,none,none⟩
def ti25:TI:=⟨2,48,true,false,false,none,none, [(0,22),(1,23)],some [zN,zN],some [(0,1),(1,1)],false,none,none⟩
def ti26:TI:=⟨3,40,true,false,false,none,none, [(0,4),(1,9),(2,9)],some [zB,zS,zS],some [(0,1),(1,1),(2,1)],false,some [1,2,2],none⟩
def ti27:TI:=⟨3,40,true,false,false,none,none, [(0,4),(1,9),(2,9)],some [zB,zS,zS],some [(0,1),(1,1),(2,1)],true,some [1,2,2],none⟩
def ti28:TI:=⟨6,80,true,false,false,none,none, [(0,27),(3,27)],some [zB,zS,zS,zB,zS,zS],some [(0,3),(3,3)],false,some [1,2,2,1,2,2],none⟩
def ti29:TI:=⟨6,80,true,false,false,none,none, [(0,27),(3,27)],some [zB,zS,zS,zB,zS,zS],some [(0,3),(3,3)],true,some [1,2,2,1,2,2],none⟩
def ti30:TI:=⟨12,160,true,false,false,none,none, [(0,29),(6,29)],some [zB,zS,zS,zB,zS,zS,zB,zS,zS,zB,zS,zS],some [(0,6),(6,6)],false,some [1,2,2,1,2,2,1,2,2,1,2,2],none⟩
def ti31:TI:=⟨12,160,true,false,false,none,none, [(0,29),(6,29)],some [zB,zS,zS,zB,zS,zS,zB,zS,zS,zB,zS,zS],some [(0,6),(6,6)],false,some [1,2,2,1,2,2,1,2,2,1,2,2],none⟩
def ti32:TI:=⟨1,8,false,false,false,none,none, [],some [D.v Value.nilFunc],none,false,none,none⟩
def ti33:TI:=⟨1,8,false,false,false,none,none, [],some [D.v Value.nilFunc],none,false,none,none⟩
def ti34:TI:=⟨1,24,false,false,false,none,some 27, [],some [zN],none,true,none,none⟩
def ti35:TI:=⟨1,8,false,false,false,some .i64,none, [],some [zI],none,false,none,none⟩
def ti36:TI:=⟨1,0,false,false,false,none,none, [],none,none,false,none,none⟩
def ti37:TI:=⟨1,8,false,false,false,none,none, [],some [D.v Value.nilFunc],none,false,none,none⟩
def ti38:TI:=⟨1,0,false,false,false,none,none, [],none,none,false,none,none⟩
def ti39:TI:=⟨1,8,false,false,false,none,none, [],some [D.v Value.nilFunc],none,false,none,none⟩
def ti40:TI:=⟨1,8,false,false,false,none,none, [],some [D.v Value.nilFunc],none,false,none,none⟩
def ti41:TI:=⟨1,8,false,false,false,none,none, [],some [D.v Value.nilFunc],none,false,none,none⟩
def ti42:TI:=⟨1,8,false,false,false,none,none, [],some [D.v Value.nilFunc],none,false,none,none⟩
def ti43:TI:=⟨1,8,false,false,false,none,none, [],some [D.v Value.nilFunc],none,false,none,none⟩
def ti44:TI:=⟨1,8,false,false,false,none,none, [],some [D.v Value.nilFunc],none,false,none,none⟩
def ti45:TI:=⟨12,160,true,false,false,none,none, [(0,29),(6,29)],some [zB,zS,zS,zB,zS,zS,zB,zS,zS,zB,zS,zS],some [(0,6),(6,6)],false,some [1,2,2,1,2,2,1,2,2,1,2,2],none⟩
def ti46:TI:=⟨12,160,true,false,false,none,none, [(0,29),(6,29)],some [zB,zS,zS,zB,zS,zS,zB,zS,zS,zB,zS,zS],some [(0,6),(6,6)],true,some [1,2,2,1,2,2,1,2,2,1,2,2],none⟩
def ti47:TI:=⟨1,24,false,false,false,none,some 3, [],some [zN],none,true,none,none⟩
def ti48:TI:=⟨1,0,false,false,false,none,none, [],none,none,false,none,none⟩
def ti49:TI:=⟨1,8,false,false,false,none,none, [],some [D.v Value.nilFunc],none,false,none,none⟩
def ti50:TI:=⟨1,0,false,false,false,none,none, [],none,none,false,none,none⟩
def ti51:TI:=⟨1,8,false,false,false,none,none, [],some [D.v Value.nilFunc],none,false,none,none⟩
def ti52:TI:=⟨1,8,false,false,false,none,none, [],some [D.v Value.nilFunc],none,false,none,none⟩
def ti53:TI:=⟨1,8,false,false,false,none,none, [],some [D.v Value.nilFunc],none,false,none,none⟩
def ti54:TI:=⟨1,0,false,false,false,none,none, [],none,none,false,none,none⟩
def ti55:TI:=⟨1,8,false,false,false,none,none, [],some [D.v Value.nilFunc],none,false,none,none⟩
def ti56:TI:=⟨1,8,false,false,false,none,none, [],some [D.v Value.nilFunc],none,false,none,none⟩
def ti57:TI:=⟨1,8,false,false,false,none,none, [],some [D.v Value.nilFunc],none,false,none,none⟩
def ti58:TI:=⟨1,24,false,false,false,none,some 4, [],some [zN],none,false,none,none⟩
def ti59:TI:=⟨1,0,false,false,false,none,none, [],none,none,false,none,none⟩
def ti60:TI:=⟨1,8,false,false,false,none,none, [],some [D.v Value.nilFunc],none,false,none,none⟩
def ti61:TI:=⟨1,8,false,false,false,none,none, [],some [D.v Value.nilFunc],none,false,none,none⟩
def ti62:TI:=⟨1,8,false,false,false,none,none, [],some [D.v Value.nilFunc],none,false,none,none⟩
def ti63:TI:=⟨1,8,false,false,false,none,none, [],some [D.v Value.nilFunc],none,false,none,none⟩
def ti64:TI:=⟨1,8,false,false,false,none,none, [],some [D.v Value.nilFunc],none,false,none,none⟩
def ti65:TI:=⟨1,8,false,false,false,none,none, [],some [D.v Value.nilFunc],none,false,none,none⟩
def ti66:TI:=⟨1,8,false,false,false,none,none, [],some [D.v Value.nilFunc],none,false,none,none⟩
def ti67:TI:=⟨1,8,false,false,false,none,none, [],some [D.v Value.nilFunc],none,false,none,none⟩
def ti68:TI:=⟨1,8,false,false,false,none,none, [],some [D.v Value.nilFunc],none,false,none,none⟩
def ti69:TI:=⟨1,8,false,false,false,none,none, [],some [D.v Value.nilFunc],none,false,none,none⟩
def ti70:TI:=⟨1,8,false,false,false,none,none, [],some [D.v Value.nilFunc],none,false,none,none⟩
def ti71:TI:=⟨1,24,false,false,false,none,some 147, [],some [zN],none,false,none,none⟩
def ti72:TI:=⟨1,0,false,false,false,none,none, [],none,none,false,none,none⟩
def ti73:TI:=⟨1,8,false,false,false,none,none, [],some [D.v Value.nilFunc],none,false,none,none⟩
def ti74:TI:=⟨1,0,false,false,false,none,none, [],none,none,false,none,none⟩
def ti75:TI:=⟨1,8,false,false,false,none,none, [],some [D.v Value.nilFunc],none,false,none,none⟩
def ti76:TI:=⟨1,8,false,false,false,none,none, [],some [D.v Value.nilFunc],none,false,none,none⟩
def ti77:TI:=⟨1,8,false,false,false,none,none, [],some [D.v Value.nilFunc],none,false,none,none⟩
def ti78:TI:=⟨1,0,false,false,false,none,none, [],none,none,false,none,none⟩
def ti79:TI:=⟨1,8,false,false,false,none,none, [],some [D.v Value.nilFunc],none,false,none,none⟩
def ti80:TI:=⟨1,8,false,false,false,none,none, [],some [D.v Value.nilFunc],none,false,none,none⟩
def ti81:TI:=⟨1,8,false,false,false,none,none, [],some [D.v Value.nilFunc],none,false,none,none⟩
def ti82:TI:=⟨1,8,false,false,false,none,none, [],some [D.v Value.nilFunc],none,false,none,none⟩
def ti83:TI:=⟨1,0,false,false,false,none,none, [],none,none,false,none,none⟩
def ti84:TI:=⟨1,8,false,false,false,none,none, [],some [D.v Value.nilFunc],none,false,none,none⟩
def ti85:TI:=⟨1,0,false,false,false,none,none, [],none,none,false,none,none⟩
def ti86:TI:=⟨1,8,false,false,false,none,none, [],some [D.v Value.nilFunc],none,false,none,none⟩
def ti87:TI:=⟨1,8,false,false,false,none,none, [],some [D.v Value.nilFunc],none,false,none,none⟩
def ti88:TI:=⟨1,8,false,false,false,none,none, [],some [D.v Value.nilFunc],none,false,none,none⟩
def ti89:TI:=⟨1,8,false,false,false,none,none, [],some [D.v Value.nilFunc],none,false,none,none⟩
def ti90:TI:=⟨1,8,false,false,false,none,none, [],some [D.v Value.nilFunc],none,false,none,none⟩
def ti91:TI:=⟨14,176,true,false,false,none,none, [(0,31),(12,3),(13,3)],some [zB,zS,zS,zB,zS,zS,zB,zS,zS,zB,zS,zS,zI,zI],some [(0,12),(12,1),(13,1)],false,some [1,2,2,1,2,2,1,2,2,1,2,2,6,6],none⟩
def ti92:TI:=⟨14,176,true,false,false,none,none, [(0,31),(12,3),(13,3)],some [zB,zS,zS,zB,zS,zS,zB,zS,zS,zB,zS,zS,zI,zI],some [(0,12),(12,1),(13,1)],false,some [1,2,2,1,2,2,1,2,2,1,2,2,6,6],none⟩
def ti93:TI:=⟨1,8,false,false,false,none,none, [],some [D.v Value.nilFunc],none,false,none,none⟩
def ti94:TI:=⟨1,8,false,false,false,none,none, [],some [D.v Value.nilFunc],none,false,none,none⟩
def ti95:TI:=⟨1,8,false,false,false,none,none, [],some [D.v Value.nilFunc],none,false,none,none⟩
def ti96:TI:=⟨1,8,false,false,false,none,none, [],some [D.v Value.nilFunc],none,false,none,none⟩
def ti97:TI:=⟨1,8,false,false,false,none,none, [],some [D.v Value.nilFunc],none,false,none,none⟩
def ti98:TI:=⟨2,24,true,false,false,none,none, [(0,4),(1,9)],some [zB,zS],some [(0,1),(1,1)],false,some [1,2],none⟩
def ti99:TI:=⟨2,24,true,false,false,none,none, [(0,4),(1,9)],some [zB,zS],some [(0,1),(1,1)],false,some [1,2],none⟩
def ti100:TI:=⟨1,8,false,false,false,none,none, [],some [D.v Value.nilFunc],none,false,none,none⟩
def ti101:TI:=⟨4,48,true,false,false,none,none, [(0,99),(2,99)],some [zB,zS,zB,zS],some [(0,2),(2,2)],false,some [1,2,1,2],none⟩
def ti102:TI:=⟨4,48,true,false,false,none,none, [(0,99),(2,99)],some [zB,zS,zB,zS],some [(0,2),(2,2)],false,some [1,2,1,2],none⟩
def ti103:TI:=⟨1,8,false,false,false,none,none, [],some [D.v Value.nilFunc],none,false,none,none⟩
def ti104:TI:=⟨1,8,false,false,false,none,none, [],some [D.v Value.nilFunc],none,false,none,none⟩
def ti105:TI:=⟨1,8,false,false,false,none,none, [],some [D.v Value.nilFunc],none,false,none,none⟩
def ti106:TI:=⟨1,8,false,false,false,none,none, [],some [D.v Value.nilFunc],none,false,none,none⟩
def ti107:TI:=⟨1,8,false,false,false,none,none, [],some [D.v Value.nilFunc],none,false,none,none⟩
def ti108:TI:=⟨1,8,false,false,false,none,none, [],some [D.v Value.nilFunc],none,false,none,none⟩
def ti109:TI:=⟨1,8,false,false,false,none,none, [],some [D.v Value.nilFunc],none,false,none,none⟩
def ti110:TI:=⟨1,8,false,false,false,none,none, [],some [D.v Value.nilFunc],none,false,none,none⟩
def ti111:TI:=⟨1,8,false,false,false,none,none, [],some [D.v Value.nilFunc],none,false,none,none⟩
def ti112:TI:=⟨1,8,false,false,false,none,none, [],some [D.v Value.nilFunc],none,false,none,none⟩
def ti113:TI:=⟨1,8,false,false,false,none,none, [],some [D.v Value.nilFunc],none,false,none,none⟩
def ti114:TI:=⟨1,8,false,false,false,none,none, [],some [D.v Value.nilFunc],none,false,none,none⟩
def ti115:TI:=⟨1,8,false,false,false,none,none, [],some [D.v Value.nilFunc],none,false,none,none⟩
def ti116:TI:=⟨1,8,false,false,false,none,none, [],some [D.v Value.nilFunc],none,false,none,none⟩
def ti117:TI:=⟨1,8,false,false,false,none,none, [],some [D.v Value.nilFunc],none,false,none,none⟩
def ti118:TI:=⟨1,8,false,false,false,none,none, [],some [D.v Value.nilFunc],none,false,none,none⟩
def ti119:TI:=⟨4,32,true,false,false,none,none, [],some [D.v Value.nilFunc,D.v Value.nilFunc,D.v Value.nilFunc,D.v Value.nilFunc],some [(0,1),(1,1),(2,1),(3,1)],false,none,some (4,118)⟩
def ti120:TI:=⟨1,8,false,false,false,none,none, [],some [D.v Value.nilFunc],none,false,none,none⟩
def ti121:TI:=⟨1,8,false,false,false,none,none, [],some [D.v Value.nilFunc],none,false,none,none⟩
def ti122:TI:=⟨1,8,false,false,false,none,none, [],some [D.v Value.nilFunc],none,false,none,none⟩
def ti123:TI:=⟨1,8,false,false,false,none,none, [],some [D.v Value.nilFunc],none,false,none,none⟩
def ti124:TI:=⟨1,24,false,false,false,none,some 46, [],some [zN],none,false,none,none⟩
def ti125:TI:=⟨1,0,false,false,false,none,none, [],none,none,false,none,none⟩
def ti126:TI:=⟨1,8,false,false,false,none,none, [],some [D.v Value.nilFunc],none,false,none,none⟩
def ti127:TI:=⟨1,8,false,false,false,none,none, [],some [D.v Value.nilFunc],none,false,none,none⟩
def ti128:TI:=⟨1,8,false,false,false,none,none, [],some [D.v Value.nilFunc],none,false,none,none⟩
def ti129:TI:=⟨1,8,false,false,false,none,none, [],some [D.v Value.nilFunc],none,false,none,none⟩
def ti130:TI:=⟨1,8,false,false,false,none,none, [],some [D.v Value.nilFunc],none,false,none,none⟩
def ti131:TI:=⟨1,8,false,false,false,none,none, [],some [D.v Value.nilFunc],none,false,none,none⟩
def ti132:TI:=⟨1,8,false,false,false,none,none, [],some [D.v Value.nilFunc],none,false,none,none⟩
def ti133:TI:=⟨1,8,false,false,false,none,none, [],some [D.v Value.nilFunc],none,false,none,none⟩
def ti134:TI:=⟨1,8,false,false,false,none,none, [],some [D.v Value.nilFunc],none,false,none,none⟩
def ti135:TI:=⟨1,8,false,false,false,none,none, [],some [D.v Value.nilFunc],none,false,none,none⟩
def ti136:TI:=⟨1,8,false,false,false,none,none, [],some [D.v Value.nilFunc],none,false,none,none⟩
def ti137:TI:=⟨1,8,false,false,false,none,none, [],some [D.v Value.nilFunc],none,false,none,none⟩
def ti138:TI:=⟨1,8,false,false,false,none,none, [],some [D.v Value.nilFunc],none,false,none,none⟩
def ti139:TI:=⟨1,8,false,false,false,none,none, [],some [D.v Value.nilFunc],none,false,none,none⟩
def ti140:TI:=⟨1,0,false,false,false,none,none, [],none,none,false,none,none⟩
def ti141:TI:=⟨1,8,false,false,false,none,none, [],some [D.v Value.nilFunc],none,false,none,none⟩
def ti142:TI:=⟨1,8,false,false,false,none,none, [],some [D.v Value.nilFunc],none,false,none,none⟩
def ti143:TI:=⟨1,8,false,false,false,none,none, [],some [D.v Value.nilFunc],none,false,none,none⟩
def ti144:TI:=⟨1,8,false,false,false,none,none, [],some [D.v Value.nilFunc],none,false,none,none⟩
def ti145:TI:=⟨1,8,false,false,false,none,none, [],some [D.v Value.nilFunc],none,false,none,none⟩
def ti146:TI:=⟨6,80,true,false,false,none,none, [(0,27),(3,27)],some [zB,zS,zS,zB,zS,zS],some [(0,3),(3,3)],false,some [1,2,2,1,2,2],none⟩
def ti147:TI:=⟨6,80,true,false,false,none,none, [(0,27),(3,27)],some [zB,zS,zS,zB,zS,zS],some [(0,3),(3,3)],true,some [1,2,2,1,2,2],none⟩
def ti148:TI:=⟨1,8,false,false,false,none,none, [],some [D.v Value.nilFunc],none,false,none,none⟩
def ti149:TI:=⟨1,8,false,false,false,none,none, [],some [D.v Value.nilFunc],none,false,none,none⟩
def ti150:TI:=⟨1,24,false,false,false,none,some 5, [],some [zN],none,false,none,none⟩
def ti151:TI:=⟨1,8,false,false,false,none,none, [],some [D.v Value.nilFunc],none,false,none,none⟩
def ti152:TI:=⟨1,8,false,false,false,none,none, [],some [D.v Value.nilFunc],none,false,none,none⟩
def ti153:TI:=⟨1,8,false,false,false,none,none, [],some [D.v Value.nilFunc],none,false,none,none⟩
def ti154:TI:=⟨1,8,false,false,false,none,none, [],some [D.v Value.nilFunc],none,false,none,none⟩
def ti155:TI:=⟨1,8,false,false,false,none,none, [],some [D.v Value.nilFunc],none,false,none,none⟩
def ti156:TI:=⟨1,8,false,false,false,none,none, [],some [D.v Value.nilFunc],none,false,none,none⟩
def ti157:TI:=⟨1,8,false,false,false,none,none, [],some [D.v Value.nilFunc],none,false,none,none⟩
def ti158:TI:=⟨1,8,false,false,false,none,none, [],some [D.v Value.nilFunc],none,false,none,none⟩
def ti159:TI:=⟨1,8,false,false,false,none,none, [],some [D.v Value.nilFunc],none,false,none,none⟩
def ti160:TI:=⟨1,8,false,false,false,none,none, [],some [D.v Value.nilFunc],none,false,none,none⟩
def ti161:TI:=⟨1,24,false,false,false,none,some 34, [],some [zN],none,false,none,none⟩
def ti162:TI:=⟨1,24,false,false,false,none,some 47, [],some [zN],none,false,none,none⟩
def ti163:TI:=⟨16,256,true,false,false,none,none, [(0,31),(12,124),(13,34),(14,161),(15,162)],some [zB,zS,zS,zB,zS,zS,zB,zS,zS,zB,zS,zS,zN,zN,zN,zN],some [(0,12),(12,1),(13,1),(14,1),(15,1)],false,none,none⟩
def ti164:TI:=⟨16,256,true,false,false,none,none, [(0,31),(12,124),(13,34),(14,161),(15,162)],some [zB,zS,zS,zB,zS,zS,zB,zS,zS,zB,zS,zS,zN,zN,zN,zN],some [(0,12),(12,1),(13,1),(14,1),(15,1)],false,none,none⟩
def ti165:TI:=⟨1,0,false,false,false,none,none, [],none,none,false,none,none⟩
def ti166:TI:=⟨1,8,false,false,false,none,none, [],some [D.v Value.nilFunc],none,false,none,none⟩
def ti167:TI:=⟨1,8,false,false,false,none,none, [],some [D.v Value.nilFunc],none,false,none,none⟩
def ti168:TI:=⟨1,8,false,false,false,none,none, [],some [D.v Value.nilFunc],none,false,none,none⟩
def ti169:TI:=⟨1,8,false,false,false,some .u64,none, [],some [D.v (Value.int IntKind.u64 (0))],none,false,none,none⟩
def ti170:TI:=⟨1,8,false,false,false,none,none, [],some [D.v Value.nilFunc],none,false,none,none⟩
def ti171:TI:=⟨1,4,false,false,false,some .u32,none, [],some [D.v (Value.int IntKind.u32 (0))],none,true,none,none⟩
def ti172:TI:=⟨1,8,false,false,false,some .u64,none, [],some [D.v (Value.int IntKind.u64 (0))],none,false,none,none⟩
def ti173:TI:=⟨1,24,false,false,false,none,some 171, [],some [zN],none,false,none,none⟩
def ti174:TI:=⟨1,24,false,false,false,none,some 171, [],some [zN],none,false,none,none⟩
def ti175:TI:=⟨1,8,false,false,false,none,none, [],some [D.v Value.nilFunc],none,false,none,none⟩
def ti176:TI:=⟨1,0,false,false,false,none,none, [],none,none,false,none,none⟩
def ti177:TI:=⟨1,8,false,false,false,none,none, [],some [D.v Value.nilFunc],none,false,none,none⟩
def ti178:TI:=⟨1,0,false,false,false,none,none, [],none,none,false,none,none⟩
def ti179:TI:=⟨1,8,false,false,false,none,none, [],some [D.v Value.nilFunc],none,false,none,none⟩
def ti180:TI:=⟨1,8,false,false,false,none,none, [],some [D.v Value.nilFunc],none,false,none,none⟩
def ti181:TI:=⟨1,0,false,false,false,none,none, [],none,none,false,none,none⟩
def ti182:TI:=⟨1,8,false,false,false,none,none, [],some [D.v Value.nilFunc],none,false,none,none⟩
def ti183:TI:=⟨1,8,false,false,false,none,none, [],some [D.v Value.nilFunc],none,false,none,none⟩
def ti184:TI:=⟨1,8,false,false,false,none,none, [],some [D.v Value.nilFunc],none,false,none,none⟩
def ti185:TI:=⟨1,8,false,false,false,none,none, [],some [D.v Value.nilFunc],none,false,none,none⟩
def ti186:TI:=⟨1,8,false,false,false,none,none, [],some [D.v Value.nilFunc],none,false,none,none⟩
def ti187:TI:=⟨1,0,false,false,false,none,none, [],none,none,false,none,none⟩
def ti188:TI:=⟨1,8,false,false,false,none,none, [],some [D.v Value.nilFunc],none,false,none,none⟩
def ti189:TI:=⟨1,8,false,false,false,none,none, [],some [D.v Value.nilFunc],none,false,none,none⟩
def ti190:TI:=⟨1,8,false,false,false,none,none, [],some [D.v Value.nilFunc],none,false,none,none⟩
def ti191:TI:=⟨1,8,false,false,false,none,none, [],some [D.v Value.nilFunc],none,false,none,none⟩
def ti192:TI:=⟨1,8,false,false,false,none,none, [],some [D.v Value.nilFunc],none,false,none,none⟩
def ti193:TI:=⟨1,24,false,false,false,none,some 197, [],some [zN],none,false,none,none⟩
def ti194:TI:=⟨1,0,false,false,false,none,none, [],none,none,false,none,none⟩
def ti195:TI:=⟨1,8,false,false,false,none,none, [],some [D.v Value.nilFunc],none,false,none,none⟩
def ti196:TI:=⟨18,240,true,false,false,none,none, [(0,29),(6,29),(12,29)],some [zB,zS,zS,zB,zS,zS,zB,zS,zS,zB,zS,zS,zB,zS,zS,zB,zS,zS],some [(0,6),(6,6),(12,6)],false,some [1,2,2,1,2,2,1,2,2,1,2,2,1,2,2,1,2,2],none⟩
def ti197:TI:=⟨18,240,true,false,false,none,none, [(0,29),(6,29),(12,29)],some [zB,zS,zS,zB,zS,zS,zB,zS,zS,zB,zS,zS,zB,zS,zS,zB,zS,zS],some [(0,6),(6,6),(12,6)],true,some [1,2,2,1,2,2,1,2,2,1,2,2,1,2,2,1,2,2],none⟩
def ti198:TI:=⟨1,0,false,false,false,none,none, [],none,none,false,none,none⟩
def ti199:TI:=⟨1,8,false,false,false,none,none, [],some [D.v Value.nilFunc],none,false,none,none⟩
def ti200:TI:=⟨1,8,false,false,false,none,none, [],some [D.v Value.nilFunc],none,false,none,none⟩
def ti201:TI:=⟨1,8,false,false,false,none,none, [],some [D.v Value.nilFunc],none,false,none,none⟩
def ti202:TI:=⟨1,8,false,false,false,none,none, [],some [D.v Value.nilFunc],none,false,none,none⟩
def ti203:TI:=⟨1,0,false,false,false,none,none, [],none,none,false,none,none⟩
def ti204:TI:=⟨1,8,false,false,false,none,none, [],some [D.v Value.nilFunc],none,false,none,none⟩
def ti205:TI:=⟨1,8,false,false,false,none,none, [],some [D.v Value.nilFunc],none,false,none,none⟩
def ti206:TI:=⟨1,8,false,false,false,none,none, [],some [D.v Value.nilFunc],none,false,none,none⟩
def ti207:TI:=⟨1,8,false,false,false,none,none, [],some [D.v Value.nilFunc],none,false,none,none⟩
def ti208:TI:=⟨1,8,false,false,false,none,none, [],some [D.v Value.nilFunc],none,false,none,none⟩
def ti209:TI:=⟨1,8,false,false,false,none,none, [],some [D.v Value.nilFunc],none,false,none,none⟩
def ti210:TI:=⟨1,8,false,false,false,none,none, [],some [D.v Value.nilFunc],none,false,none,none⟩
def ti211:TI:=⟨1,8,false,false,false,none,none, [],some [D.v Value.nilFunc],none,false,none,none⟩
def ti212:TI:=⟨1,8,false,false,false,none,none, [],some [D.v Value.nilFunc],none,false,none,none⟩
def ti213:TI:=⟨1,8,false,false,false,none,none, [],some [D.v Value.nilFunc],none,false,none,none⟩
def ti214:TI:=⟨1,8,false,false,false,none,none, [],some [D.v Value.nilFunc],none,false,none,none⟩
def ti215:TI:=⟨1,8,false,false,false,none,none, [],some [D.v Value.nilFunc],none,false,none,none⟩
def ti216:TI:=⟨1,8,false,false,false,none,none, [],some [D.v Value.nilFunc],none,false,none,none⟩
def ti217:TI:=⟨1,8,false,false,false,none,none, [],some [D.v Value.nilFunc],none,false,none,none⟩
def ti218:TI:=⟨1,8,false,false,false,none,none, [],some [D.v Value.nilFunc],none,false,none,none⟩
def ti219:TI:=⟨1,8,false,false,false,none,none, [],some [D.v Value.nilFunc],none,false,none,none⟩
def ti220:TI:=⟨1,8,false,false,false,none,none, [],some [D.v Value.nilFunc],none,false,none,none⟩
def ti221:TI:=⟨1,8,false,false,false,none,none, [],some [D.v Value.nilFunc],none,false,none,none⟩
def ti222:TI:=⟨1,8,false,false,false,none,none, [],some [D.v Value.nilFunc],none,false,none,none⟩
def ti223:TI:=⟨1,8,false,false,false,none,none, [],some [D.v Value.nilFunc],none,false,none,none⟩
def ti224:TI:=⟨1,8,false,false,false,none,none, [],some [D.v Value.nilFunc],none,false,none,none⟩
def ti225:TI:=⟨1,8,false,false,false,none,none, [],some [D.v Value.nilFunc],none,false,none,none⟩
def ti226:TI:=⟨1,8,false,false,false,none,none, [],some [D.v Value.nilFunc],none,false,none,none⟩
def ti227:TI:=⟨1,8,false,false,false,none,none, [],some [D.v Value.nilFunc],none,false,none,none⟩
def ti228:TI:=⟨1,8,false,false,false,none,none, [],some [D.v Value.nilFunc],none,false,none,none⟩
def ti229:TI:=⟨1,8,false,false,false,none,none, [],some [D.v Value.nilFunc],none,false,none,none⟩
def ti230:TI:=⟨1,8,false,false,false,none,none, [],some [D.v Value.nilFunc],none,false,none,none⟩
def ti231:TI:=⟨1,8,false,false,false,none,none, [],some [D.v Value.nilFunc],none,false,none,none⟩
def ti232:TI:=⟨1,8,false,false,false,none,none, [],some [D.v Value.nilFunc],none,false,none,none⟩
def ti233:TI:=⟨1,8,false,false,false,none,none, [],some [D.v Value.nilFunc],none,false,none,none⟩
def ti234:TI:=⟨1,24,false,false,false,none,some 288, [],some [zN],none,false,none,none⟩
def ti235:TI:=⟨1,8,false,false,false,none,none, [],some [D.v Value.nilFunc],none,false,none,none⟩
def ti236:TI:=⟨13,184,true,false,false,none,none, [(0,31),(12,234)],some [zB,zS,zS,zB,zS,zS,zB,zS,zS,zB,zS,zS,zN],some [(0,12),(12,1)],false,none,none⟩
def ti237:TI:=⟨13,184,true,false,false,none,none, [(0,31),(12,234)],some [zB,zS,zS,zB,zS,zS,zB,zS,zS,zB,zS,zS,zN],some [(0,12),(12,1)],false,none,none⟩
def ti238:TI:=⟨1,8,false,false,false,none,none, [],some [D.v Value.nilFunc],none,false,none,none⟩
def ti239:TI:=⟨1,8,false,false,false,none,none, [],some [D.v Value.nilFunc],none,false,none,none⟩
def ti240:TI:=⟨1,8,false,false,false,none,none, [],some [D.v Value.nilFunc],none,false,none,none⟩
def ti241:TI:=⟨1,8,false,false,false,none,none, [],some [D.v Value.nilFunc],none,false,none,none⟩
def ti242:TI:=⟨1,8,false,false,false,none,none, [],some [D.v Value.nilFunc],none,false,none,none⟩
def ti243:TI:=⟨1,0,false,false,false,none,none, [],none,none,false,none,none⟩
def ti244:TI:=⟨1,8,false,false,false,none,none, [],some [D.v Value.nilFunc],none,false,none,none⟩
def ti245:TI:=⟨1,8,false,false,false,none,none, [],some [D.v Value.nilFunc],none,false,none,none⟩
def ti246:TI:=⟨8,8,true,false,false,none,none, [],some [D.v (Value.int IntKind.u8 (0)),D.v (Value.int IntKind.u8 (0)),D.v (Value.int IntKind.u8 (0)),D.v (Value.int IntKind.u8 (0)),D.v (Value.int IntKind.u8 (0)),D.v (Value.int IntKind.u8 (0)),D.v (Value.int IntKind.u8 (0)),D.v (Value.int IntKind.u8 (0))],some [(0,1),(1,1),(2,1),(3,1),(4,1),(5,1),(6,1),(7,1)],false,none,some (8,5)⟩
def ti247:TI:=⟨1,8,false,false,false,none,none, [],some [D.v Value.nilFunc],none,false,none,none⟩
def ti248:TI:=⟨1,0,false,false,false,none,none, [],none,none,false,none,none⟩
def ti249:TI:=⟨1,8,false,false,false,none,none, [],some [D.v Value.nilFunc],none,false,none,none⟩
def ti250:TI:=⟨1,8,false,false,false,none,none, [],some [D.v Value.nilFunc],none,false,none,none⟩
def ti251:TI:=⟨1,8,false,false,false,none,none, [],some [D.v Value.nilFunc],none,false,none,none⟩
def ti252:TI:=⟨1,0,false,false,false,none,none, [],none,none,false,none,none⟩
def ti253:TI:=⟨1,8,false,false,false,none,none, [],some [D.v Value.nilFunc],none,false,none,none⟩
def ti254:TI:=⟨1,8,false,false,false,none,none, [],some [D.v Value.nilFunc],none,false,none,none⟩
def ti255:TI:=⟨1,8,false,false,false,none,none, [],some [D.v Value.nilFunc],none,false,none,none⟩
def ti256:TI:=⟨1,8,false,false,false,none,none, [],some [D.v Value.nilFunc],none,false,none,none⟩
def ti257:TI:=⟨1,8,false,false,false,none,none, [],some [D.v Value.nilFunc],none,false,none,none⟩
def ti258:TI:=⟨9,120,true,false,false,none,none, [(0,27),(3,27),(6,27)],some [zB,zS,zS,zB,zS,zS,zB,zS,zS],some [(0,3),(3,3),(6,3)],false,some [1,2,2,1,2,2,1,2,2],none⟩
def ti259:TI:=⟨9,120,true,false,false,none,none, [(0,27),(3,27),(6,27)],some [zB,zS,zS,zB,zS,zS,zB,zS,zS],some [(0,3),(3,3),(6,3)],false,some [1,2,2,1,2,2,1,2,2],none⟩
def ti260:TI:=⟨1,0,false,false,false,none,none, [],none,none,false,none,none⟩
def ti261:TI:=⟨1,8,false,false,false,none,none, [],some [D.v Value.nilFunc],none,false,none,none⟩
def ti262:TI:=⟨1,8,false,false,false,none,none, [],some [D.v Value.nilFunc],none,false,none,none⟩
def ti263:TI:=⟨1,8,false,false,false,none,none, [],some [D.v Value.nilFunc],none,false,none,none⟩
def ti264:TI:=⟨1,8,false,false,false,none,none, [],some [D.v Value.nilFunc],none,false,none,none⟩
def ti265:TI:=⟨1,8,false,false,false,none,none, [],some [D.v Value.nilFunc],none,false,none,none⟩
def ti266:TI:=⟨1,8,false,false,false,none,none, [],some [D.v Value.nilFunc],none,false,none,none⟩
def ti267:TI:=⟨1,8,false,false,false,none,none, [],some [D.v Value.nilFunc],none,false,none,none⟩
def ti268:TI:=⟨1,8,false,false,false,none,none, [],some [D.v Value.nilFunc],none,false,none,none⟩
def ti269:TI:=⟨1,8,false,false,false,some .i64,none, [],some [zI],none,false,none,none⟩
def ti270:TI:=⟨1,0,false,false,false,none,none, [],none,none,false,none,none⟩
def ti271:TI:=⟨1,8,false,false,false,none,none, [],some [D.v Value.nilFunc],none,false,none,none⟩
def ti272:TI:=⟨1,8,false,false,false,none,none, [],some [D.v Value.nilFunc],none,false,none,none⟩
def ti273:TI:=⟨1,8,false,false,false,none,none, [],some [D.v Value.nilFunc],none,false,none,none⟩
def ti274:TI:=⟨1,8,false,false,false,none,none, [],some [D.v Value.nilFunc],none,false,none,none⟩
def ti275:TI:=⟨1,8,false,false,false,none,none, [],some [D.v Value.nilFunc],none,false,none,none⟩
def ti276:TI:=⟨1,8,false,false,false,none,none, [],some [D.v Value.nilFunc],none,false,none,none⟩
def ti277:TI:=⟨1,8,false,false,false,none,none, [],some [D.v Value.nilFunc],none,false,none,none⟩
def ti278:TI:=⟨1,8,false,false,false,none,none, [],some [D.v Value.nilFunc],none,false,none,none⟩
def ti279:TI:=⟨1,8,false,false,false,none,none, [],some [D.v Value.nilFunc],none,false,none,none⟩
def ti280:TI:=⟨1,8,false,false,false,none,none, [],some [D.v Value.nilFunc],none,false,none,none⟩
def ti281:TI:=⟨1,8,false,false,false,none,none, [],some [D.v Value.nilFunc],none,false,none,none⟩
def ti282:TI:=⟨1,8,false,false,false,none,none, [],some [D.v Value.nilFunc],none,false,none,none⟩
def ti283:TI:=⟨1,8,false,false,false,none,none, [],some [D.v Value.nilFunc],none,false,none,none⟩
def ti284:TI:=⟨1,8,false,false,false,none,none, [],some [D.v Value.nilFunc],none,false,none,none⟩
def ti285:TI:=⟨1,8,false,false,false,none,none, [],some [D.v Value.nilFunc],none,false,none,none⟩
def ti286:TI:=⟨1,8,false,false,false,none,none, [],some [D.v Value.nilFunc],none,false,none,none⟩
def ti287:TI:=⟨13,168,true,false,false,none,none, [(0,46),(12,3)],some [zB,zS,zS,zB,zS,zS,zB,zS,zS,zB,zS,zS,zI],some [(0,12),(12,1)],false,some [1,2,2,1,2,2,1,2,2,1,2,2,6],none⟩
def ti288:TI:=⟨13,168,true,false,false,none,none, [(0,46),(12,3)],some [zB,zS,zS,zB,zS,zS,zB,zS,zS,zB,zS,zS,zI],some [(0,12),(12,1)],true,some [1,2,2,1,2,2,1,2,2,1,2,2,6],none⟩
def ti289:TI:=⟨1,8,false,false,false,none,none, [],some [D.v Value.nilFunc],none,false,none,none⟩
def ti290:TI:=⟨1,0,false,false,false,none,none, [],none,none,false,none,none⟩
def ti291:TI:=⟨1,8,false,false,false,none,none, [],some [D.v Value.nilFunc],none,false,none,none⟩
def ti292:TI:=⟨1,24,false,false,false,none,some 294, [],some [zN],none,false,none,none⟩
def ti293:TI:=⟨4,48,true,false,false,none,none, [(0,27),(3,3)],some [zB,zS,zS,zI],some [(0,3),(3,1)],false,some [1,2,2,6],none⟩
def ti294:TI:=⟨4,48,true,false,false,none,none, [(0,27),(3,3)],some [zB,zS,zS,zI],some [(0,3),(3,1)],true,some [1,2,2,6],none⟩
def ti295:TI:=⟨1,8,false,false,false,none,none, [],some [D.v Value.nilFunc],none,false,none,none⟩
def ti296:TI:=⟨1,8,false,false,false,none,none, [],some [D.v Value.nilFunc],none,false,none,none⟩
def ti297:TI:=⟨1,8,false,false,false,none,none, [],some [D.v Value.nilFunc],none,false,none,none⟩
def ti298:TI:=⟨1,8,false,false,false,none,none, [],some [D.v Value.nilFunc],none,false,none,none⟩
def ti299:TI:=⟨1,0,false,false,false,none,none, [],none,none,false,none,none⟩
def ti300:TI:=⟨1,8,false,false,false,none,none, [],some [D.v Value.nilFunc],none,false,none,none⟩
def ti301:TI:=⟨1,8,false,false,false,none,none, [],some [D.v Value.nilFunc],none,false,none,none⟩
def ti302:TI:=⟨1,8,false,false,false,none,none, [],some [D.v Value.nilFunc],none,false,none,none⟩
def ti303:TI:=⟨1,8,false,false,false,none,none, [],some [D.v Value.nilFunc],none,false,none,none⟩
def ti304:TI:=⟨1,8,false,false,false,none,none, [],some [D.v Value.nilFunc],none,false,none,none⟩
def ti305:TI:=⟨1,8,false,false,false,none,none, [],some [D.v Value.nilFunc],none,false,none,none⟩
def ti306:TI:=⟨1,8,false,false,false,none,none, [],some [D.v Value.nilFunc],none,false,none,none⟩
def ti307:TI:=⟨1,0,false,false,false,none,none, [],none,none,false,none,none⟩
def ti308:TI:=⟨1,8,false,false,false,none,none, [],some [D.v Value.nilFunc],none,false,none,none⟩
def ti309:TI:=⟨1,8,false,false,false,some .u64,none, [],some [D.v (Value.int IntKind.u64 (0))],none,false,none,none⟩
def ti310:TI:=⟨1,8,false,false,false,none,none, [],some [D.v Value.nilFunc],none,false,none,none⟩
def ti311:TI:=⟨1,8,false,false,false,none,none, [],some [D.v Value.nilFunc],none,false,none,none⟩
def ti312:TI:=⟨1,8,false,false,false,none,none, [],some [D.v Value.nilFunc],none,false,none,none⟩
def ti313:TI:=⟨1,8,false,false,false,none,none, [],none,none,false,none,none⟩
def ti314:TI:=⟨1,8,false,false,false,none,none, [],some [D.v Value.nilFunc],none,false,none,none⟩
def ti315:TI:=⟨1,8,false,false,false,none,none, [],some [D.v Value.nilFunc],none,false,none,none⟩
def ti316:TI:=⟨1,8,false,false,false,none,none, [],some [D.v Value.nilFunc],none,false,none,none⟩
def ti317:TI:=⟨1,8,false,false,false,none,none, [],some [D.v Value.nilFunc],none,false,none,none⟩
def ti318:TI:=⟨1,8,false,false,false,none,none, [],some [D.v Value.nilFunc],none,false,none,none⟩
def ti319:TI:=⟨1,8,false,false,false,none,none, [],some [D.v Value.nilFunc],none,false,none,none⟩
def ti320:TI:=⟨1,8,false,false,false,none,none, [],some [D.v Value.nilFunc],none,false,none,none⟩
def ti321:TI:=⟨1,8,false,false,false,none,none, [],some [D.v Value.nilFunc],none,false,none,none⟩
def ti322:TI:=⟨1,0,false,false,false,none,none, [],none,none,false,none,none⟩
def ti323:TI:=⟨1,8,false,false,false,none,none, [],some [D.v Value.nilFunc],none,false,none,none⟩
def ti324:TI:=⟨1,8,false,false,false,none,none, [],some [D.v Value.nilFunc],none,false,none,none⟩
def ti325:TI:=⟨1,8,false,false,false,none,none, [],some [D.v Value.nilFunc],none,false,none,none⟩
def ti326:TI:=⟨1,8,false,false,false,none,none, [],some [D.v Value.nilFunc],none,false,none,none⟩
def ti327:TI:=⟨8,128,true,false,false,none,none, [],some [zS,zS,zS,zS,zS,zS,zS,zS],some [(0,1),(1,1),(2,1),(3,1),(4,1),(5,1),(6,1),(7,1)],false,none,some (8,9)⟩
def ti328:TI:=⟨1,8,false,false,false,none,none, [],none,none,false,none,none⟩
def ti329:TI:=⟨1,0,false,false,false,none,none, [],none,none,false,none,none⟩
def ti330:TI:=⟨1,8,false,false,false,none,none, [],some [D.v Value.nilFunc],none,false,none,none⟩
def ti331:TI:=⟨1,8,false,false,false,none,none, [],some [D.v Value.nilFunc],none,false,none,none⟩
def ti332:TI:=⟨1,8,false,false,false,none,none, [],some [D.v Value.nilFunc],none,false,none,none⟩
def ti333:TI:=⟨1,8,false,false,false,none,none, [],some [D.v Value.nilFunc],none,false,none,none⟩
def ti334:TI:=⟨1,8,false,false,false,none,none, [],some [D.v Value.nilFunc],none,false,none,none⟩
def ti335:TI:=⟨1,8,false,false,false,none,none, [],some [D.v Value.nilFunc],none,false,none,none⟩
def ti336:TI:=⟨1,8,false,false,false,none,none, [],some [D.v Value.nilFunc],none,false,none,none⟩
def ti337:TI:=⟨1,8,false,false,false,none,none, [],some [D.v Value.nilFunc],none,false,none,none⟩
def ti338:TI:=⟨1,8,false,false,false,none,none, [],some [D.v Value.nilFunc],none,false,none,none⟩
def ti339:TI:=⟨1,8,false,false,false,none,none, [],some [D.v Value.nilFunc],none,false,none,none⟩
def ti340:TI:=⟨1,8,false,false,false,none,none, [],some [D.v Value.nilFunc],none,false,none,none⟩
def ti341:TI:=⟨1,16,false,false,false,none,none, [],some [D.v Value.nilIface],none,false,none,none⟩
def ti342:TI:=⟨1,16,false,false,false,none,none, [],some [D.v Value.nilIface],none,false,none,none⟩
def ti343:TI:=⟨1,8,false,false,false,none,none, [],some [D.v Value.nilFunc],none,false,none,none⟩
def ti344:TI:=⟨1,8,false,false,false,none,none, [],some [D.v Value.nilFunc],none,false,none,none⟩
def ti345:TI:=⟨1,8,false,false,false,none,none, [],some [D.v Value.nilFunc],none,false,none,none⟩
def ti346:TI:=⟨1,8,false,false,false,none,none, [],none,none,false,none,none⟩
def ti347:TI:=⟨4,40,true,false,false,none,none, [(0,17),(1,17),(2,17),(3,9)],none,none,false,none,none⟩
def ti348:TI:=⟨4,40,true,false,false,none,none, [(0,17),(1,17),(2,17),(3,9)],none,none,false,none,none⟩
def ti349:TI:=⟨0,0,true,false,false,none,none, [],some [],some [],false,none,some (0,16)⟩
def ti350:TI:=⟨0,0,true,false,false,none,none, [(0,349)],some [],some [(0,0)],false,none,none⟩
def ti351:TI:=⟨0,0,true,false,false,none,none, [(0,349)],some [],some [(0,0)],false,none,none⟩
def ti352:TI:=⟨1,8,false,false,false,none,none, [],some [D.v Value.nilFunc],none,false,none,none⟩
def ti353:TI:=⟨1,1,false,false,false,some .u8,none, [],some [D.v (Value.int IntKind.u8 (0))],none,false,none,none⟩
def ti354:TI:=⟨1,1,false,false,false,some .u8,none, [],some [D.v (Value.int IntKind.u8 (0))],none,false,none,none⟩
def ti355:TI:=⟨1,8,false,false,false,none,none, [],some [D.v Value.nilFunc],none,false,none,none⟩
def ti356:TI:=⟨1,8,false,false,false,none,none, [],none,none,false,none,none⟩
def ti357:TI:=⟨1,4,false,false,false,some .i32,none, [],some [D.v (Value.int IntKind.i32 (0))],none,false,none,none⟩
def ti358:TI:=⟨1,4,false,false,false,some .i32,none, [],some [D.v (Value.int IntKind.i32 (0))],none,false,none,none⟩
def ti359:TI:=⟨11,48,true,false,false,none,none, [],none,none,false,none,none⟩
def ti360:TI:=⟨11,48,true,false,false,none,none, [],none,none,false,none,none⟩
def ti361:TI:=⟨1,16,true,false,false,none,none, [(0,9)],some [zS],some [(0,1)],false,some [2],none⟩
def ti362:TI:=⟨1,16,true,false,false,none,none, [(0,9)],some [zS],some [(0,1)],false,some [2],none⟩
def ti363:TI:=⟨1,8,false,false,false,none,none, [],none,none,false,none,none⟩
def rw0:List (Option TI):= [some ti0,some ti1,some ti2,some ti3,some ti4,some ti5,some ti6,some ti7,some ti8,some ti9,some ti10,some ti11,some ti12,some ti13,some ti14,some ti15]
theorem rk0:fillL Tryz.prog (16*0) rw0=rw0:=by kernel_rfl
def rw1:List (Option TI):= [some ti16,some ti17,some ti18,some ti19,some ti20,some ti21,some ti22,some ti23,some ti24,some ti25,some ti26,some ti27,some ti28,some ti29,some ti30,some ti31]
theorem rk1:fillL Tryz.prog (16*1) rw1=rw1:=by kernel_rfl
def rw2:List (Option TI):= [some ti32,some ti33,some ti34,some ti35,some ti36,some ti37,some ti38,some ti39,some ti40,some ti41,some ti42,some ti43,some ti44,some ti45,some ti46,some ti47]
theorem rk2:fillL Tryz.prog (16*2) rw2=rw2:=by kernel_rfl
def rw3:List (Option TI):= [some ti48,some ti49,some ti50,some ti51,some ti52,some ti53,some ti54,some ti55,some ti56,some ti57,some ti58,some ti59,some ti60,some ti61,some ti62,some ti63]
theorem rk3:fillL Tryz.prog (16*3) rw3=rw3:=by kernel_rfl
def rw4:List (Option TI):= [some ti64,some ti65,some ti66,some ti67,some ti68,some ti69,some ti70,some ti71,some ti72,some ti73,some ti74,some ti75,some ti76,some ti77,some ti78,some ti79]
theorem rk4:fillL Tryz.prog (16*4) rw4=rw4:=by kernel_rfl
def rw5:List (Option TI):= [some ti80,some ti81,some ti82,some ti83,some ti84,some ti85,some ti86,some ti87,some ti88,some ti89,some ti90,some ti91,some ti92,some ti93,some ti94,some ti95]
theorem rk5:fillL Tryz.prog (16*5) rw5=rw5:=by kernel_rfl
def rw6:List (Option TI):= [some ti96,some ti97,some ti98,some ti99,some ti100,some ti101,some ti102,some ti103,some ti104,some ti105,some ti106,some ti107,some ti108,some ti109,some ti110,some ti111]
theorem rk6:fillL Tryz.prog (16*6) rw6=rw6:=by kernel_rfl
def rw7:List (Option TI):= [some ti112,some ti113,some ti114,some ti115,some ti116,some ti117,some ti118,some ti119,some ti120,some ti121,some ti122,some ti123,some ti124,some ti125,some ti126,some ti127]
theorem rk7:fillL Tryz.prog (16*7) rw7=rw7:=by kernel_rfl
def rw8:List (Option TI):= [some ti128,some ti129,some ti130,some ti131,some ti132,some ti133,some ti134,some ti135,some ti136,some ti137,some ti138,some ti139,some ti140,some ti141,some ti142,some ti143]
theorem rk8:fillL Tryz.prog (16*8) rw8=rw8:=by kernel_rfl
def rw9:List (Option TI):= [some ti144,some ti145,some ti146,some ti147,some ti148,some ti149,some ti150,some ti151,some ti152,some ti153,some ti154,some ti155,some ti156,some ti157,some ti158,some ti159]
theorem rk9:fillL Tryz.prog (16*9) rw9=rw9:=by kernel_rfl
def rw10:List (Option TI):= [some ti160,some ti161,some ti162,some ti163,some ti164,some ti165,some ti166,some ti167,some ti168,some ti169,some ti170,some ti171,some ti172,some ti173,some ti174,some ti175]
theorem rk10:fillL Tryz.prog (16*10) rw10=rw10:=by kernel_rfl
def rw11:List (Option TI):= [some ti176,some ti177,some ti178,some ti179,some ti180,some ti181,some ti182,some ti183,some ti184,some ti185,some ti186,some ti187,some ti188,some ti189,some ti190,some ti191]
theorem rk11:fillL Tryz.prog (16*11) rw11=rw11:=by kernel_rfl
def rw12:List (Option TI):= [some ti192,some ti193,some ti194,some ti195,some ti196,some ti197,some ti198,some ti199,some ti200,some ti201,some ti202,some ti203,some ti204,some ti205,some ti206,some ti207]
theorem rk12:fillL Tryz.prog (16*12) rw12=rw12:=by kernel_rfl
def rw13:List (Option TI):= [some ti208,some ti209,some ti210,some ti211,some ti212,some ti213,some ti214,some ti215,some ti216,some ti217,some ti218,some ti219,some ti220,some ti221,some ti222,some ti223]
theorem rk13:fillL Tryz.prog (16*13) rw13=rw13:=by kernel_rfl
def rw14:List (Option TI):= [some ti224,some ti225,some ti226,some ti227,some ti228,some ti229,some ti230,some ti231,some ti232,some ti233,some ti234,some ti235,some ti236,some ti237,some ti238,some ti239]
theorem rk14:fillL Tryz.prog (16*14) rw14=rw14:=by kernel_rfl
def rw15:List (Option TI):= [some ti240,some ti241,some ti242,some ti243,some ti244,some ti245,some ti246,some ti247,some ti248,some ti249,some ti250,some ti251,some ti252,some ti253,some ti254,some ti255]
theorem rk15:fillL Tryz.prog (16*15) rw15=rw15:=by kernel_rfl
def rw16:List (Option TI):= [some ti256,some ti257,some ti258,some ti259,some ti260,some ti261,some ti262,some ti263,some ti264,some ti265,some ti266,some ti267,some ti268,some ti269,some ti270,some ti271]
theorem rk16:fillL Tryz.prog (16*16) rw16=rw16:=by kernel_rfl
def rw17:List (Option TI):= [some ti272,some ti273,some ti274,some ti275,some ti276,some ti277,some ti278,some ti279,some ti280,some ti281,some ti282,some ti283,some ti284,some ti285,some ti286,some ti287]
theorem rk17:fillL Tryz.prog (16*17) rw17=rw17:=by kernel_rfl
def rw18:List (Option TI):= [some ti288,some ti289,some ti290,some ti291,some ti292,some ti293,some ti294,some ti295,some ti296,some ti297,some ti298,some ti299,some ti300,some ti301,some ti302,some ti303]
theorem rk18:fillL Tryz.prog (16*18) rw18=rw18:=by kernel_rfl
def rw19:List (Option TI):= [some ti304,some ti305,some ti306,some ti307,some ti308,some ti309,some ti310,some ti311,some ti312,some ti313,some ti314,some ti315,some ti316,some ti317,some ti318,some ti319]
theorem rk19:fillL Tryz.prog (16*19) rw19=rw19:=by kernel_rfl
def rw20:List (Option TI):= [some ti320,some ti321,some ti322,some ti323,some ti324,some ti325,some ti326,some ti327,some ti328,some ti329,some ti330,some ti331,some ti332,some ti333,some ti334,some ti335]
theorem rk20:fillL Tryz.prog (16*20) rw20=rw20:=by kernel_rfl
def rw21:List (Option TI):= [some ti336,some ti337,some ti338,some ti339,some ti340,some ti341,some ti342,some ti343,some ti344,some ti345,some ti346,some ti347,some ti348,some ti349,some ti350,some ti351]
theorem rk21:fillL Tryz.prog (16*21) rw21=rw21:=by kernel_rfl
def rw22:List (Option TI):= [some ti352,some ti353,some ti354,some ti355,some ti356,some ti357,some ti358,some ti359,some ti360,some ti361,some ti362,some ti363]
theorem rk22:fillL Tryz.prog (16*22) rw22=rw22:=by kernel_rfl
def tbl:Tb:= [rw0,rw1,rw2,rw3,rw4,rw5,rw6,rw7,rw8,rw9,rw10,rw11,rw12,rw13,rw14,rw15,rw16,rw17,rw18,rw19,rw20,rw21,rw22]
theorem tOk:TbOk Tryz.prog tbl:=tbOk_of ⟨⟨rk0,by decide⟩,⟨rk1,by decide⟩,⟨rk2,by decide⟩,⟨rk3,by decide⟩,⟨rk4,by decide⟩,⟨rk5,by decide⟩,⟨rk6,by decide⟩,⟨rk7,by decide⟩,⟨rk8,by decide⟩,⟨rk9,by decide⟩,⟨rk10,by decide⟩,⟨rk11,by decide⟩,⟨rk12,by decide⟩,⟨rk13,by decide⟩,⟨rk14,by decide⟩,⟨rk15,by decide⟩,⟨rk16,by decide⟩,⟨rk17,by decide⟩,⟨rk18,by decide⟩,⟨rk19,by decide⟩,⟨rk20,by decide⟩,⟨rk21,by decide⟩,⟨rk22,by decide⟩,trivial⟩
end Go.Nv
end
