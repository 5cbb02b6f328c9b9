import Derived.Test.YtlmmifgminkdkaaGreatNwC5
import Derived.Test.YtlmmifgminkdkaaGreatNwE1
import Derived.Test.YtlmmifgminkdkaaGreatNwS1
import Derived.Test.YtlmmifgminkdkaaGreatNwP1
set_option linter.all false
set_option maxRecDepth 100000
section
namespace Go.Nv
open Go.Proofs Nw
def pRt:D->Option RD
 | .a [.v (.bool n),.v (.string s),.v (.string t)] =>match decide (s.size<1000/\t.size<1000) with|true=>some ⟨n,s,t⟩|false=>none
 |_=>none
theorem qfe{d:D}{r:RD}(h:pRt d=some r):d=rdD r/\Sz r:=by
 unfold pRt at h
 split at h
 ·split at h
  ·rename_i hd
   have:=of_decide_eq_true hd
   simp at h;subst h
   exact ⟨rfl,Nat.lt_of_lt_of_le this.1 (by omega),Nat.lt_of_lt_of_le this.2 (by omega)⟩
  ·simp at h
 ·simp at h
def qCB(n:Int):Bool:=decide (-9223372036854775808<=n/\n<=9223372036854775807)
def qCh(g:FuncId)(a:D):Option (List D):=match g with
 |387=>match pRt a with|some r=>some [qar (-r.val)] |none=>none
 |16=>match pRt a with|some r=>some [i64 (qfG r.val)] |none=>none
 |88=>match pRt a with|some r=>some [i64 (okN r)] |none=>none
 |59=>match a with| .v (.int .i64 n)=>(match qCB n with|true=>some [qar (n:Rat)] |false=>none)|_=>none
 |_=>none
def qDm(g:FuncId)(a b:D):Option (List D):=match g with
 |50=>match pRt a,pRt b with|some r,some s=>some [qar (r.val+s.val)] |_,_=>none
 |14=>match pRt a,pRt b with|some r,some s=>some [qar (r.val*s.val)] |_,_=>none
 |22=>match pRt a,pRt b with|some r,some s=>some [qar (r.val-s.val)] |_,_=>none
 |117=>match pRt a,pRt b with|some r,some s=>some [qar (r.val/s.val),i64 (eQ s.val)] |_,_=>none
 |17=>match pRt a,pRt b with|some r,some s=>some [i64 (qdo r.val s.val)] |_,_=>none
 |360=>match a,b with| .v (.int .i64 n),.v (.int .i64 m)=>(match qCB n&&qCB m with|true=>some [qar (Rat.divInt n m),i64 (eN m)] |false=>none)|_,_=>none
 |_=>none
def orc(g:FuncId)(ds:List D):Option (List D):=match ds with
 | [a] =>qCh g a
 | [a,b] =>qDm g a b
 |_=>none
theorem qnN{g:FuncId}{a:D}{res:List D}(h:qCh g a=some res):Fun Tryz.prog g [a] res:=by
 unfold qCh at h
 split at h
 ·split at h
  ·rename_i r hr;obtain ⟨rfl,hs⟩:=qfe hr;simp at h;subst h;exact qA6 _ hs
  ·simp at h
 ·split at h
  ·rename_i r hr;obtain ⟨rfl,hs⟩:=qfe hr;simp at h;subst h;exact qt3 _ hs
  ·simp at h
 ·split at h
  ·rename_i r hr;obtain ⟨rfl,hs⟩:=qfe hr;simp at h;subst h;exact qlM _ hs
  ·simp at h
 ·split at h
  ·split at h
   ·rename_i n hn;simp at h;subst h;exact qCl _ (of_decide_eq_true hn)
   ·simp at h
  ·simp at h
 ·simp at h
theorem qnQ{g:FuncId}{a b:D}{res:List D}(h:qDm g a b=some res):Fun Tryz.prog g [a,b] res:=by
 unfold qDm at h
 split at h
 ·split at h
  ·rename_i r s hr hs;obtain ⟨rfl,h1⟩:=qfe hr;obtain ⟨rfl,h2⟩:=qfe hs;simp at h;subst h;exact qvf _ _ h1 h2
  ·simp at h
 ·split at h
  ·rename_i r s hr hs;obtain ⟨rfl,h1⟩:=qfe hr;obtain ⟨rfl,h2⟩:=qfe hs;simp at h;subst h;exact qyl _ _ h1 h2
  ·simp at h
 ·split at h
  ·rename_i r s hr hs;obtain ⟨rfl,h1⟩:=qfe hr;obtain ⟨rfl,h2⟩:=qfe hs;simp at h;subst h;exact qyV _ _ h1 h2
  ·simp at h
 ·split at h
  ·rename_i r s hr hs;obtain ⟨rfl,h1⟩:=qfe hr;obtain ⟨rfl,h2⟩:=qfe hs;simp at h;subst h;exact qyC _ _ h1 h2
  ·simp at h
 ·split at h
  ·rename_i r s hr hs;obtain ⟨rfl,h1⟩:=qfe hr;obtain ⟨rfl,h2⟩:=qfe hs;simp at h;subst h;exact qfu _ _ h1 h2
  ·simp at h
 ·split at h
  ·split at h
   ·rename_i n m hn
    rw [Bool.and_eq_true] at hn
    simp at h;subst h;exact quN _ _ (of_decide_eq_true hn.1) (of_decide_eq_true hn.2)
   ·simp at h
  ·simp at h
 ·simp at h
theorem qhV{g:FuncId}{ds res:List D}(h:orc g ds=some res):Fun Tryz.prog g ds res:=by
 unfold orc at h
 split at h
 ·exact qnN h
 ·exact qnQ h
 ·simp at h
def muL:List (List Nat):= [[], [], [], [3,4,5,7,8,11,12,13,15], [6,9,11,13,15], [5,7,8,11,12], [10,12,14,16], [17,19], [11,13,15,17,19,21], [11,14,15,39,43], [], [], [1,2], [4], [4], [2,6,7,9], [], [], [2,4], [], [], [5,6], [3,4], [], [], [4], [4], [4], [], [], [4], [6,10], [4], [], [4], [5], [8], [], [], [], [2,6,8], [], [], [2,4], [2,4], [3,6,10], [], [], [], [2,3,4], [4], [2,3,4,5,6], [], [], [], [], [], [0], [4], [2], [6], [8], [8], [4,8], [4], [4], [2,3,4,5,7,8,10], [6,8], [2,3], [2,3], [], [], [], [], [], [4,5,7], [], [], [4], [], [7], [], [], [8,9], [], [], [], [], [], [6,9], [3], [], [], [], [6], [], [], [], [6,8,10,13], [4], [3,4], [4,11,12,13,14], [], [], [4], [], [], [], [], [], [], [], [8], [4], [4], [], [4,5], [4,6,7], [3], [], [5,6,7], [4], [], [2], [], [3], [4], [13], [16], [], [4], [4,5,10,11], [4,7,11], [6,7,8,10], [], [], [4], [], [5], [], [], [], [9], [], [], [6], [2,3,4], [11], [], [], [], [], [], [4], [], [], [4,5,6], [4,7], [4,11,12,13,14], [], [4,5], [2,3,4,5], [2,3,4,5,6], [2,3,4], [4,6], [0], [11,12,13,14], [], [4], [], [19], [12], [4], [2,3,4], [], [4,5,6,7], [], [], [], [], [52], [3,4], [], [4,7,8,9,11], [], [], [4,6,7,8,9], [], [5], [7], [5], [6,8,9], [], [], [], [], [], [], [], [], [], [2,3], [], [], [2,3,4,7,8,9,10,11,12,14], [], [], [], [4,8,10,12,13,14,16,17], [], [5], [], [5], [], [], [], [12], [2,6,7], [], [], [4,8], [], [], [4,5], [8,10], [], [2,3,4], [], [], [2], [1,2], [4], [2,3,4,5,7,8], [2], [], [16,69], [], [2,6], [2], [2,3], [], [2], [], [], [5,6,7,8], [11], [], [12], [], [10], [], [], [], [7,8], [5,7,8], [7,8], [9,10,12,17], [3], [5,6], [], [4,7,8], [7], [5], [4,5], [8,10], [], [3,4,5], [4,7], [], [4], [], [4], [2], [], [2], [4], [4], [4,6,7,8], [4], [4], [], [], [], [], [], [], [], [2,3,4], [5,6], [], [], [], [2,3], [], [], [7], [], [4,5], [], [], [8,9], [16], [], [], [], [], [], [], [7,8], [7,12], [8], [9], [11,13], [], [2,4,6,7], [16], [], [11], [3], [], [6,32], [], [4], [4,5,6], [], [], [], [], [], [], [4,7,8,11,12,13,14], [], [], [4,6], [], [], [], [], [], [], [4], [6], [0], [], [], [2,3,4,6,7,8,9,10,12,14,15,16], [], [2], [], [], [], [], [], [], [2], [8,10], [], [], [5], [4,6], [4], [4], [], [], [9], [11], [], [], [], [], [], [], [], [], [8,9,10], [], [], [4,7,10,11], [], [], [], [], [6], [], [], [], [2], [1,2], [6], [], [], [4,6,7], [], [], [2,5], [5,8], [], [], [], [], [], [], [], [], [], [9], [], [], [5,6], [], [7], [2], [], [4], [4], [4], [], [], [4,7,8], [4], [], [], [], [], [9], [11], [], [], [], [], [], [], [], [], [], [], [], [4], [4,5], [1,2], [4,5,8,9,11,13], [3], [3], [3], [3], [], [], [], [9], [11], [], [], [], [], [], [], [], [], [], [], [], [9], [11], [], [], [], [], [], [], [], [], [4], [], [], [9], [11], [], [], [], [], [], [], [], [], [], [], [], [], [], [], [], [], [], [], [9], [11], [], [], [], [], [], [], [], [], [], [], [], [], [], [], [], [], [], [], [], [], [], [], [], [], [], [], []]
def qDX(t:Nat):List Nat->Bool
 | [] =>false
 |x::xs=>match Nat.beq x t with|true=>true|false=>qDX t xs
def muX:List (Nat×Nat):= [(254,19),(255,18),(407,21),(408,52),(394,2)]
def qCY(g t:Nat):List (Nat×Nat)->Bool
 | [] =>false
 |(a,b)::xs=>match Nat.beq a g with|true=>(match Nat.beq b t with|true=>true|false=>qCY g t xs)|false=>qCY g t xs
def muE(g:FuncId)(t:Tmp):Bool:=match qCY g t muX with|true=>true|false=>(match lkO muL g with|some l=>qDX t l|none=>false)
def qCe(a b:RD):Bool:=(a.neg==b.neg)&&((a.num==b.num)&&(a.den==b.den))
theorem qqi(a b:RD):qCe a b=decide (a=b):=by
 obtain ⟨a1,a2,a3⟩:=a
 obtain ⟨b1,b2,b3⟩:=b
 unfold qCe
 rw [qbu,qbu,Bool.eq_iff_iff]
 simp
def qnF:RD->List RD->List RD
 |_, [] => []
 |p,y::t=>match qCe y p with|true=>qnF y t|false=>y::qnF y t
def qxg:List RD->List RD
 | [] => []
 |x::t=>x::qnF x t
theorem qj0(y:RD): ∀(l:List RD) (p:RD),qnF p (l++ [y])=qnF p l++(if y=(p::l).getLast (by simp) then [] else [y])
 | [],p=>by
  show qnF p [y] =_
  unfold qnF
  rw [qqi]
  by_cases h:y=p
  ·rw [decide_eq_true h];simp [qnF,h]
  ·rw [decide_eq_false h];simp [qnF,h]
 |x::l,p=>by
  have ih:=qj0 y l x
  rw [List.cons_append]
  unfold qnF
  rw [qqi]
  have e:(p::x::l).getLast (by simp)=(x::l).getLast (by simp):=by simp
  rw [e]
  split
  ·exact ih
  ·rw [ih];rfl
theorem qu9(l:List RD):Lib.compact l=qxg l:=by
 have key: ∀m,m<=l.length->Lib.compactUpTo l.toArray m=qxg (l.take m):=by
  intro m
  induction m with
  |zero=>intro _;simp [Lib.compactUpTo,qxg]
  |succ m ih=>
   intro hm
   rw [Lib.compactUpTo_succ,ih (by omega),List.take_succ_eq_append_getElem (by omega)]
   have g1:l.toArray[m]! =l[m] :=by rw [getElem!_pos l.toArray m (by simp;omega)];simp
   rw [g1]
   cases ht:l.take m with
   |nil=>
    have:m=0:=by
     have:=congrArg List.length ht
     simp at this
     rcases this with h|h
     ·exact h
     ·rw [h] at hm;simp at hm
    subst this
    simp [qxg,qnF,Lib.keeps]
   |cons x t=>
    have hm0:0<m:=by
     rcases Nat.eq_zero_or_pos m with h|h
     ·subst h;simp at ht
     ·exact h
    have g2:l.toArray[m-1]! =l[m-1] :=by rw [getElem!_pos l.toArray (m-1) (by simp;omega)];simp
    have hlast:(x::t).getLast (by simp)=l[m-1] :=by
     have h1:(x::t).getLast? =(l.take m).getLast? :=by rw [ht]
     rw [List.getLast?_eq_getLast (by simp),List.getLast?_eq_getElem?,List.length_take,Nat.min_eq_left (by omega),List.getElem?_take,if_pos (by omega),List.getElem?_eq_getElem (by omega)] at h1
     simpa using h1
    have hk:Lib.keeps l.toArray m=decide (l[m] ≠l[m-1]):=by
     unfold Lib.keeps
     rw [g1,g2]
     have:m≠0:=by omega
     simp [this]
    rw [hk]
    show _=x::qnF x (t++ [l[m]])
    rw [qj0,hlast]
    show x::qnF x t++_=_
    by_cases h:l[m] =l[m-1]
    ·simp [h]
    ·simp [h]
 have:=key l.length (Nat.le_refl _)
 rw [List.take_length] at this
 exact this
def pRs:List D->Option (List RD)
 | [] =>some []
 |x::xs=>match pRt x with
  |some r=>(match pRs xs with|some rs=>some (r::rs)|none=>none)
  |none=>none
theorem qt0: ∀{xs:List D} {rs:List RD},pRs xs=some rs->xs=rs.map rdV
 | [],rs,h=>by simp [pRs] at h;subst h;rfl
 |x::xs,rs,h=>by
  unfold pRs at h
  split at h
  ·rename_i r hr
   split at h
   ·rename_i rs' hrs
    simp at h;subst h
    rw [(qfe hr).1,qt0 hrs];rfl
   ·simp at h
  ·simp at h
def qAq:List D->Bool
 | [] =>true
 |_=>false
def qlq(g:FuncId)(e:TypeId)(size:Nat)(ds xs:List D):Option {ys:List D//qjN Tryz.prog g e size ds xs ys}:=
 match h1:(Nat.beq g 390&&(Nat.beq e 23&&(Nat.beq size 3&&qAq ds))) with
 |true=>match h2:pRs xs with
  |some rs=>some ⟨(qxg rs).map rdV,by
    simp only [Bool.and_eq_true] at h1
    obtain ⟨a,b,c,d⟩:=h1
    have a:=Nat.eq_of_beq_eq_true a
    have b:=Nat.eq_of_beq_eq_true b
    have c:=Nat.eq_of_beq_eq_true c
    have d:ds= [] :=by cases ds with|nil=>rfl|cons=>simp [qAq] at d
    subst a;subst b;subst c;subst d
    rw [qt0 h2, <-qu9]
    exact qqa rs⟩
  |none=>none
 |false=>none
def qup(g:FuncId):Bool:=Nat.beq g 394
noncomputable def ev0:Ev:=⟨Tryz.prog,tbl,Tryz.prog.funcs.toList,muE,orc,fun t=>Nat.beq t 159,fun _=>false,qup,qlq⟩
end Go.Nv
end
section
namespace Go.Nv
open Go.Proofs Nw Go.RowKit
theorem qq9(hsl:ql1 ev0){n:Nat}{g:FuncId}{ds res:List D}(h:evF ev0 (evC ev0 n) g ds=some res):Fun Tryz.prog g ds (qbl (nlD 8) res):=
 qdi (E:=ev0) mixed tOk (fun g fn h=>by rw [<-Array.getElem?_toList, <-qbU];exact h) (fun g ds res h=>qhV h) (fun mu c st K r h=>(qgR (E:=ev0) hsl mixed tOk (fun g fn h=>by rw [<-Array.getElem?_toList, <-qbU];exact h) (fun g ds res h=>qhV h) n mu c st K r h).1) h
def qCq:Value->Value->Bool
 | .bool a,.bool b=>a==b
 | .int .i64 a,.int .i64 b=>a==b
 | .string a,.string b=>a==b
 |_,_=>false
def qsD(f:D->D->Bool):List D->List D->Bool
 | [], [] =>true
 |x::xs,y::ys=>match f x y with|true=>qsD f xs ys|false=>false
 |_,_=>false
def qlJ:Nat->D->D->Bool
 |0,_,_=>false
 |n+1,x,y=>match x,y with
  | .v a,.v b=>qCq a b
  | .a xs,.a ys=>qsD (qlJ n) xs ys
  | .l xs,.l ys=>qsD (qlJ n) xs ys
  |_,_=>false
theorem qv5{a b:Value}(h:qCq a b=true):a=b:=by
 unfold qCq at h
 split at h
 ·simpa using h
 ·simpa using h
 ·rename_i a b;rw [qbu] at h;simpa using h
 ·simp at h
theorem qha{f:D->D->Bool}(hf: ∀x y,f x y=true->x=y): ∀{xs ys:List D},qsD f xs ys=true->xs=ys
 | [], [],_=>rfl
 |x::xs,y::ys,h=>by
  unfold qsD at h
  split at h
  ·rename_i hx;rw [hf _ _ hx,qha hf h]
  ·simp at h
 | [],_::_,h=>by simp [qsD] at h
 |_::_, [],h=>by simp [qsD] at h
theorem qb1: ∀(n:Nat) (x y:D),qlJ n x y=true->x=y
 |0,_,_,h=>by simp [qlJ] at h
 |n+1,x,y,h=>by
  unfold qlJ at h
  split at h
  ·rw [qv5 h]
  ·rw [qha (qb1 n) h]
  ·rw [qha (qb1 n) h]
  ·simp at h
def qsj(kn:List (FuncId×List D×List D))(g:FuncId)(ds:List D):Option (List D):=match kn with
 | [] =>orc g ds
 |(f,as',res)::kn=>match Nat.beq f g with
  |true=>match qsD (qlJ 8) as' ds with|true=>some res|false=>qsj kn g ds
  |false=>qsj kn g ds
theorem qcc: ∀{kn:List (FuncId×List D×List D)} {g:FuncId} {ds res:List D},(∀k∈kn,Fun Tryz.prog k.1 k.2.1 k.2.2)->qsj kn g ds=some res->Fun Tryz.prog g ds res
 | [],g,ds,res,_,h=>qhV h
 |(f,as',r)::kn,g,ds,res,hk,h=>by
  have ih:=qcc (kn:=kn) (g:=g) (ds:=ds) (res:=res) (fun k hm=>hk k (by simp [hm]))
  unfold qsj at h
  split at h
  ·rename_i hf
   split at h
   ·rename_i he
    simp at h;subst h
    have e1:=Nat.eq_of_beq_eq_true hf
    have e2:=qha (qb1 8) he
    subst e1;subst e2
    exact hk (f,as',r) (by simp)
   ·exact ih h
  ·exact ih h
abbrev qDR:D:= .l [ptD 2 2,ptD 4 2,ptD 4 4,ptD 2 4]
abbrev qD3:D:= .l [ptD 3 3,ptD 9 3,ptD 3 6]
abbrev quw:D:= .a [qDR,.l []]
abbrev qu8:D:= .a [qD3,.l []]
abbrev exD:D:= .a ((quD 0 0 10 8).cells++ [.l [.a [.v (.string ⟨#[97]⟩),qDR,.l []],.a [.v (.string ⟨#[98]⟩),qD3,.l []]]])
theorem qEp:evF ev0 (evC ev0 1000) 73 [quw] =some [i64 0] :=by kernel_rfl
theorem qEk:evF ev0 (evC ev0 1000) 73 [qu8] =some [i64 0] :=by kernel_rfl
noncomputable def kn1:List (FuncId×List D×List D):= [(73, [quw], [i64 0]),(73, [qu8], [i64 0])]
noncomputable def ev1:Ev:=⟨Tryz.prog,tbl,Tryz.prog.funcs.toList,muE,qsj kn1,fun t=>Nat.beq t 159,fun g=>Nat.beq g 183,qup,qlq⟩
theorem qEd:evF ev1 (evC ev1 1000) 26 [exD] =some [i64 0] :=by kernel_rfl
noncomputable abbrev qtl:D:=quD 0 0 10 8
noncomputable abbrev qlA:D:= .l [quw,qu8]
noncomputable abbrev qvz:D:= .l [.a (((ptD 2 2).cells)++(ptD 4 2).cells),.a (((ptD 4 2).cells)++(ptD 4 4).cells),.a (((ptD 4 4).cells)++(ptD 2 4).cells),.a (((ptD 2 4).cells)++(ptD 2 2).cells),.a (((ptD 3 3).cells)++(ptD 9 3).cells),.a (((ptD 9 3).cells)++(ptD 3 6).cells),.a (((ptD 3 6).cells)++(ptD 3 3).cells)]
noncomputable abbrev qCw:D:= .l [.a ((ptD 2 2).cells++((ptD 4 2).cells++ [i64 0])),.a ((ptD 4 2).cells++((ptD 4 4).cells++ [i64 1])),.a ((ptD 2 4).cells++((ptD 4 4).cells++ [i64 2])),.a ((ptD 2 2).cells++((ptD 2 4).cells++ [i64 3])),.a ((ptD 3 3).cells++((ptD 9 3).cells++ [i64 4])),.a ((ptD 3 6).cells++((ptD 9 3).cells++ [i64 5])),.a ((ptD 3 3).cells++((ptD 3 6).cells++ [i64 6]))]
noncomputable abbrev qgy:D:= .a (qtl.cells++ [qCw])
noncomputable abbrev xsE:D:= .l [qar 0,qar 2,qar 3,qar 4,qar 9,qar 10]
noncomputable abbrev qCG:D:= .l [qar 0,qar 8]
noncomputable abbrev qAR:D:= .l [qar 0,qar 2,qar 4,qar 8]
noncomputable abbrev qB7:D:= .l [qar 0,qar 2,qar 3,qar 4,qar 6,qar 8]
noncomputable abbrev qCQ:D:= .l [qar 0,qar 2,qar 3,qar 4,qar (11/2),qar 8]
noncomputable abbrev qBP:D:= .l [qar 0,qar 3,qar 8]
noncomputable abbrev qA0:D:= .l [qar 0,qar 8]
noncomputable abbrev qBi:D:= .l []
noncomputable abbrev qDu:D:= .l [i64 0,i64 2]
noncomputable abbrev qDo:D:= .l [i64 0,i64 4,i64 2,i64 5]
noncomputable abbrev qBz:D:= .l [i64 4,i64 5]
noncomputable abbrev qBK:D:= .l []
noncomputable abbrev qsx:D:= .a (qtl.cells++ [qvz,xsE,.l [qCG,qAR,qB7,qCQ,qBP,qA0],.l [qBi,qDu,qDo,qBz,qBK]])
end Go.Nv
end
