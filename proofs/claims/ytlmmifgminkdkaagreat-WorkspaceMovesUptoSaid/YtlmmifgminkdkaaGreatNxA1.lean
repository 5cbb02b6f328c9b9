import Derived.Test.YtlmmifgminkdkaaGreatNxC5
import Derived.Test.YtlmmifgminkdkaaGreatNxE1
import Derived.Test.YtlmmifgminkdkaaGreatNxS1
import Derived.Test.YtlmmifgminkdkaaGreatNxP1
set_option linter.all false
set_option maxRecDepth 100000
section
namespace Go.Nv
open Go.Proofs Nw
def pRt:D->Option RD
 | .a [.v (.bool n),.v (.string s),.v (.string t)] =>match decide (s.size<1000/\t.size<1000) with|true=>some ⟨n,s,t⟩|false=>none
 |_=>none
theorem qfk{d:D}{r:RD}(h:pRt d=some r):d=rdD r/\Sz r:=by
 unfold pRt at h
 split at h
 ·split at h
  ·rename_i hd
   have:=of_decide_eq_true hd
   simp at h;subst h
   exact ⟨rfl,Nat.lt_of_lt_of_le this.1 (by omega),Nat.lt_of_lt_of_le this.2 (by omega)⟩
  ·simp at h
 ·simp at h
def qBD(n:Int):Bool:=decide (-9223372036854775808<=n/\n<=9223372036854775807)
def qDR(g:FuncId)(a:D):Option (List D):=match g with
 |387=>match pRt a with|some r=>some [qas (-r.val)] |none=>none
 |16=>match pRt a with|some r=>some [i64 (qfQ r.val)] |none=>none
 |88=>match pRt a with|some r=>some [i64 (okN r)] |none=>none
 |59=>match a with| .v (.int .i64 n)=>(match qBD n with|true=>some [qas (n:Rat)] |false=>none)|_=>none
 |_=>none
def qBE(g:FuncId)(a b:D):Option (List D):=match g with
 |50=>match pRt a,pRt b with|some r,some s=>some [qas (r.val+s.val)] |_,_=>none
 |14=>match pRt a,pRt b with|some r,some s=>some [qas (r.val*s.val)] |_,_=>none
 |22=>match pRt a,pRt b with|some r,some s=>some [qas (r.val-s.val)] |_,_=>none
 |117=>match pRt a,pRt b with|some r,some s=>some [qas (r.val/s.val),i64 (eQ s.val)] |_,_=>none
 |17=>match pRt a,pRt b with|some r,some s=>some [i64 (qdk r.val s.val)] |_,_=>none
 |360=>match a,b with| .v (.int .i64 n),.v (.int .i64 m)=>(match qBD n&&qBD m with|true=>some [qas (Rat.divInt n m),i64 (eN m)] |false=>none)|_,_=>none
 |_=>none
def orc(g:FuncId)(ds:List D):Option (List D):=match ds with
 | [a] =>qDR g a
 | [a,b] =>qBE g a b
 |_=>none
theorem qoP{g:FuncId}{a:D}{res:List D}(h:qDR g a=some res):Fun Tryz.prog g [a] res:=by
 unfold qDR at h
 split at h
 ·split at h
  ·rename_i r hr;obtain ⟨rfl,hs⟩:=qfk hr;simp at h;subst h;exact qCk _ hs
  ·simp at h
 ·split at h
  ·rename_i r hr;obtain ⟨rfl,hs⟩:=qfk hr;simp at h;subst h;exact qt5 _ hs
  ·simp at h
 ·split at h
  ·rename_i r hr;obtain ⟨rfl,hs⟩:=qfk hr;simp at h;subst h;exact qlB _ hs
  ·simp at h
 ·split at h
  ·split at h
   ·rename_i n hn;simp at h;subst h;exact qDV _ (of_decide_eq_true hn)
   ·simp at h
  ·simp at h
 ·simp at h
theorem qoC{g:FuncId}{a b:D}{res:List D}(h:qBE g a b=some res):Fun Tryz.prog g [a,b] res:=by
 unfold qBE at h
 split at h
 ·split at h
  ·rename_i r s hr hs;obtain ⟨rfl,h1⟩:=qfk hr;obtain ⟨rfl,h2⟩:=qfk hs;simp at h;subst h;exact qv3 _ _ h1 h2
  ·simp at h
 ·split at h
  ·rename_i r s hr hs;obtain ⟨rfl,h1⟩:=qfk hr;obtain ⟨rfl,h2⟩:=qfk hs;simp at h;subst h;exact qzF _ _ h1 h2
  ·simp at h
 ·split at h
  ·rename_i r s hr hs;obtain ⟨rfl,h1⟩:=qfk hr;obtain ⟨rfl,h2⟩:=qfk hs;simp at h;subst h;exact qAY _ _ h1 h2
  ·simp at h
 ·split at h
  ·rename_i r s hr hs;obtain ⟨rfl,h1⟩:=qfk hr;obtain ⟨rfl,h2⟩:=qfk hs;simp at h;subst h;exact qzw _ _ h1 h2
  ·simp at h
 ·split at h
  ·rename_i r s hr hs;obtain ⟨rfl,h1⟩:=qfk hr;obtain ⟨rfl,h2⟩:=qfk hs;simp at h;subst h;exact qfj _ _ h1 h2
  ·simp at h
 ·split at h
  ·split at h
   ·rename_i n m hn
    rw [Bool.and_eq_true] at hn
    simp at h;subst h;exact qwr _ _ (of_decide_eq_true hn.1) (of_decide_eq_true hn.2)
   ·simp at h
  ·simp at h
 ·simp at h
theorem qhS{g:FuncId}{ds res:List D}(h:orc g ds=some res):Fun Tryz.prog g ds res:=by
 unfold orc at h
 split at h
 ·exact qoP h
 ·exact qoC h
 ·simp at h
def muL:List (List Nat):= [[], [], [], [3,4,5,7,8,11,12,13,15], [6,9,11,13,15], [5,7,8,11,12], [10,12,14,16], [17,19], [11,13,15,17,19,21], [11,14,15,39,43], [], [], [1,2], [4], [4], [2,6,7,9], [], [], [2,4], [], [], [5,6], [3,4], [], [], [4], [4], [4], [], [], [4], [6,10], [4], [], [4], [5], [8], [], [], [], [2,6,8], [], [], [2,4], [2,4], [3,6,10], [], [], [], [2,3,4], [4], [2,3,4,5,6], [], [], [], [], [], [0], [4], [2], [6], [8], [8], [4,8], [4], [4], [2,3,4,5,7,8,10], [6,8], [2,3], [2,3], [], [], [], [], [], [4,5,7], [], [], [4], [], [7], [], [], [8,9], [], [], [], [], [], [6,9], [3], [], [], [], [6], [], [], [], [6,8,10,13], [4], [3,4], [4,11,12,13,14], [], [], [4], [], [], [], [], [], [], [], [8], [4], [4], [], [4,5], [4,6,7], [3], [], [5,6,7], [4], [], [2], [], [3], [4], [13], [16], [], [4], [4,5,10,11], [4,7,11], [6,7,8,10], [], [], [4], [], [5], [], [], [], [9], [], [], [6], [2,3,4], [11], [], [], [], [], [], [4], [], [], [4,5,6], [4,7], [4,11,12,13,14], [], [4,5], [2,3,4,5], [2,3,4,5,6], [2,3,4], [4,6], [0], [11,12,13,14], [], [4], [], [19], [12], [4], [2,3,4], [], [4,5,6,7], [], [], [], [], [52], [3,4], [], [4,7,8,9,11], [], [], [4,6,7,8,9], [], [5], [7], [5], [6,8,9], [], [], [], [], [], [], [], [], [], [2,3], [], [], [2,3,4,7,8,9,10,11,12,14], [], [], [], [4,8,10,12,13,14,16,17], [], [5], [], [5], [], [], [], [12], [2,6,7], [], [], [4,8], [], [], [4,5], [8,10], [], [2,3,4], [], [], [2], [1,2], [4], [2,3,4,5,7,8], [2], [], [16,69], [], [2,6], [2], [2,3], [], [2], [], [], [5,6,7,8], [11], [], [12], [], [10], [], [], [], [7,8], [5,7,8], [7,8], [9,10,12,17], [3], [5,6], [], [4,7,8], [7], [5], [4,5], [8,10], [], [3,4,5], [4,7], [], [4], [], [4], [2], [], [2], [4], [4], [4,6,7,8], [4], [4], [], [], [], [], [], [], [], [2,3,4], [5,6], [], [], [], [2,3], [], [], [7], [], [4,5], [], [], [8,9], [16], [], [], [], [], [], [], [7,8], [7,12], [8], [9], [11,13], [], [2,4,6,7], [16], [], [11], [3], [], [6,32], [], [4], [4,5,6], [], [], [], [], [], [], [4,7,8,11,12,13,14], [], [], [4,6], [], [], [], [], [], [], [4], [6], [0], [], [], [2,3,4,6,7,8,9,10,12,14,15,16], [], [2], [], [], [], [], [], [], [2], [8,10], [], [], [5], [4,6], [4], [4], [], [], [9], [11], [], [], [], [], [], [], [], [], [8,9,10], [], [], [4,7,10,11], [], [], [], [], [6], [], [], [], [2], [1,2], [6], [], [], [4,6,7], [], [], [2,5], [5,8], [], [], [], [], [], [], [], [], [], [9], [], [], [5,6], [], [7], [2], [], [4], [4], [4], [], [], [4,7,8], [4], [], [], [], [], [9], [11], [], [], [], [], [], [], [], [], [], [], [], [4], [4,5], [1,2], [4,5,8,9,11,13], [3], [3], [3], [3], [], [], [], [9], [11], [], [], [], [], [], [], [], [], [], [], [], [9], [11], [], [], [], [], [], [], [], [], [4], [], [], [9], [11], [], [], [], [], [], [], [], [], [], [], [], [], [], [], [], [], [], [], [9], [11], [], [], [], [], [], [], [], [], [], [], [], [], [], [], [], [], [], [], [], [], [], [], [], [], [], [], []]
def qEJ(t:Nat):List Nat->Bool
 | [] =>false
 |x::xs=>match Nat.beq x t with|true=>true|false=>qEJ t xs
def muX:List (Nat×Nat):= [(254,19),(255,18),(407,21),(408,52),(394,2)]
def qCg(g t:Nat):List (Nat×Nat)->Bool
 | [] =>false
 |(a,b)::xs=>match Nat.beq a g with|true=>(match Nat.beq b t with|true=>true|false=>qCg g t xs)|false=>qCg g t xs
def muE(g:FuncId)(t:Tmp):Bool:=match qCg g t muX with|true=>true|false=>(match lkO muL g with|some l=>qEJ t l|none=>false)
def qEx(a b:RD):Bool:=(a.neg==b.neg)&&((a.num==b.num)&&(a.den==b.den))
theorem qo4(a b:RD):qEx a b=decide (a=b):=by
 obtain ⟨a1,a2,a3⟩:=a
 obtain ⟨b1,b2,b3⟩:=b
 unfold qEx
 rw [qbN,qbN,Bool.eq_iff_iff]
 simp
def qoT:RD->List RD->List RD
 |_, [] => []
 |p,y::t=>match qEx y p with|true=>qoT y t|false=>y::qoT y t
def qAe:List RD->List RD
 | [] => []
 |x::t=>x::qoT x t
theorem qkH(y:RD): ∀(l:List RD) (p:RD),qoT p (l++ [y])=qoT p l++(if y=(p::l).getLast (by simp) then [] else [y])
 | [],p=>by
  show qoT p [y] =_
  unfold qoT
  rw [qo4]
  by_cases h:y=p
  ·rw [decide_eq_true h];simp [qoT,h]
  ·rw [decide_eq_false h];simp [qoT,h]
 |x::l,p=>by
  have ih:=qkH y l x
  rw [List.cons_append]
  unfold qoT
  rw [qo4]
  have e:(p::x::l).getLast (by simp)=(x::l).getLast (by simp):=by simp
  rw [e]
  split
  ·exact ih
  ·rw [ih];rfl
theorem qw2(l:List RD):Lib.compact l=qAe l:=by
 have key: ∀m,m<=l.length->Lib.compactUpTo l.toArray m=qAe (l.take m):=by
  intro m
  induction m with
  |zero=>intro _;simp [Lib.compactUpTo,qAe]
  |succ m ih=>
   intro hm
   rw [Lib.compactUpTo_succ,ih (by omega),List.take_succ_eq_append_getElem (by omega)]
   have g1:l.toArray[m]! =l[m] :=by rw [getElem!_pos l.toArray m (by simp;omega)];simp
   rw [g1]
   cases ht:l.take m with
   |nil=>
    have:m=0:=by
     have:=congrArg List.length ht
     simp at this
     rcases this with h|h
     ·exact h
     ·rw [h] at hm;simp at hm
    subst this
    simp [qAe,qoT,Lib.keeps]
   |cons x t=>
    have hm0:0<m:=by
     rcases Nat.eq_zero_or_pos m with h|h
     ·subst h;simp at ht
     ·exact h
    have g2:l.toArray[m-1]! =l[m-1] :=by rw [getElem!_pos l.toArray (m-1) (by simp;omega)];simp
    have hlast:(x::t).getLast (by simp)=l[m-1] :=by
     have h1:(x::t).getLast? =(l.take m).getLast? :=by rw [ht]
     rw [List.getLast?_eq_getLast (by simp),List.getLast?_eq_getElem?,List.length_take,Nat.min_eq_left (by omega),List.getElem?_take,if_pos (by omega),List.getElem?_eq_getElem (by omega)] at h1
     simpa using h1
    have hk:Lib.keeps l.toArray m=decide (l[m] ≠l[m-1]):=by
     unfold Lib.keeps
     rw [g1,g2]
     have:m≠0:=by omega
     simp [this]
    rw [hk]
    show _=x::qoT x (t++ [l[m]])
    rw [qkH,hlast]
    show x::qoT x t++_=_
    by_cases h:l[m] =l[m-1]
    ·simp [h]
    ·simp [h]
 have:=key l.length (Nat.le_refl _)
 rw [List.take_length] at this
 exact this
def pRs:List D->Option (List RD)
 | [] =>some []
 |x::xs=>match pRt x with
  |some r=>(match pRs xs with|some rs=>some (r::rs)|none=>none)
  |none=>none
theorem qum: ∀{xs:List D} {rs:List RD},pRs xs=some rs->xs=rs.map rdV
 | [],rs,h=>by simp [pRs] at h;subst h;rfl
 |x::xs,rs,h=>by
  unfold pRs at h
  split at h
  ·rename_i r hr
   split at h
   ·rename_i rs' hrs
    simp at h;subst h
    rw [(qfk hr).1,qum hrs];rfl
   ·simp at h
  ·simp at h
def qBz:List D->Bool
 | [] =>true
 |_=>false
def qlK(g:FuncId)(e:TypeId)(size:Nat)(ds xs:List D):Option {ys:List D//qnt Tryz.prog g e size ds xs ys}:=
 match h1:(Nat.beq g 390&&(Nat.beq e 23&&(Nat.beq size 3&&qBz ds))) with
 |true=>match h2:pRs xs with
  |some rs=>some ⟨(qAe rs).map rdV,by
    simp only [Bool.and_eq_true] at h1
    obtain ⟨a,b,c,d⟩:=h1
    have a:=Nat.eq_of_beq_eq_true a
    have b:=Nat.eq_of_beq_eq_true b
    have c:=Nat.eq_of_beq_eq_true c
    have d:ds= [] :=by cases ds with|nil=>rfl|cons=>simp [qBz] at d
    subst a;subst b;subst c;subst d
    rw [qum h2, <-qw2]
    exact qp0 rs⟩
  |none=>none
 |false=>none
def qxF(g:FuncId):Bool:=Nat.beq g 394
noncomputable def ev0:Ev:=⟨Tryz.prog,tbl,Tryz.prog.funcs.toList,muE,orc,fun t=>Nat.beq t 159,fun _=>false,qxF,qlK⟩
end Go.Nv
end
section
namespace Go.Nv
open Go.Proofs Nw Go.RowKit
theorem qrI(hsl:qlQ ev0){n:Nat}{g:FuncId}{ds res:List D}(h:evF ev0 (evC ev0 n) g ds=some res):Fun Tryz.prog g ds (qbr (nlD 8) res):=
 qdt (E:=ev0) mixed tOk (fun g fn h=>by rw [<-Array.getElem?_toList, <-qb7];exact h) (fun g ds res h=>qhS h) (fun mu c st K r h=>(qg9 (E:=ev0) hsl mixed tOk (fun g fn h=>by rw [<-Array.getElem?_toList, <-qb7];exact h) (fun g ds res h=>qhS h) n mu c st K r h).1) h
def qBM:Value->Value->Bool
 | .bool a,.bool b=>a==b
 | .int .i64 a,.int .i64 b=>a==b
 | .string a,.string b=>a==b
 |_,_=>false
def qsD(f:D->D->Bool):List D->List D->Bool
 | [], [] =>true
 |x::xs,y::ys=>match f x y with|true=>qsD f xs ys|false=>false
 |_,_=>false
def qmk:Nat->D->D->Bool
 |0,_,_=>false
 |n+1,x,y=>match x,y with
  | .v a,.v b=>qBM a b
  | .a xs,.a ys=>qsD (qmk n) xs ys
  | .l xs,.l ys=>qsD (qmk n) xs ys
  |_,_=>false
theorem qvH{a b:Value}(h:qBM a b=true):a=b:=by
 unfold qBM at h
 split at h
 ·simpa using h
 ·simpa using h
 ·rename_i a b;rw [qbN] at h;simpa using h
 ·simp at h
theorem qhD{f:D->D->Bool}(hf: ∀x y,f x y=true->x=y): ∀{xs ys:List D},qsD f xs ys=true->xs=ys
 | [], [],_=>rfl
 |x::xs,y::ys,h=>by
  unfold qsD at h
  split at h
  ·rename_i hx;rw [hf _ _ hx,qhD hf h]
  ·simp at h
 | [],_::_,h=>by simp [qsD] at h
 |_::_, [],h=>by simp [qsD] at h
theorem qb6: ∀(n:Nat) (x y:D),qmk n x y=true->x=y
 |0,_,_,h=>by simp [qmk] at h
 |n+1,x,y,h=>by
  unfold qmk at h
  split at h
  ·rw [qvH h]
  ·rw [qhD (qb6 n) h]
  ·rw [qhD (qb6 n) h]
  ·simp at h
def qta(kn:List (FuncId×List D×List D))(g:FuncId)(ds:List D):Option (List D):=match kn with
 | [] =>orc g ds
 |(f,as',res)::kn=>match Nat.beq f g with
  |true=>match qsD (qmk 8) as' ds with|true=>some res|false=>qta kn g ds
  |false=>qta kn g ds
theorem qcj: ∀{kn:List (FuncId×List D×List D)} {g:FuncId} {ds res:List D},(∀k∈kn,Fun Tryz.prog k.1 k.2.1 k.2.2)->qta kn g ds=some res->Fun Tryz.prog g ds res
 | [],g,ds,res,_,h=>qhS h
 |(f,as',r)::kn,g,ds,res,hk,h=>by
  have ih:=qcj (kn:=kn) (g:=g) (ds:=ds) (res:=res) (fun k hm=>hk k (by simp [hm]))
  unfold qta at h
  split at h
  ·rename_i hf
   split at h
   ·rename_i he
    simp at h;subst h
    have e1:=Nat.eq_of_beq_eq_true hf
    have e2:=qhD (qb6 8) he
    subst e1;subst e2
    exact hk (f,as',r) (by simp)
   ·exact ih h
  ·exact ih h
abbrev qEW:D:= .l [ptD 2 2,ptD 4 2,ptD 4 4,ptD 2 4]
abbrev qEZ:D:= .l [ptD 3 3,ptD 9 3,ptD 3 6]
abbrev qv2:D:= .a [qEW,.l []]
abbrev qwz:D:= .a [qEZ,.l []]
abbrev exD:D:= .a ((quD 0 0 10 8).cells++ [.l [.a [.v (.string ⟨#[97]⟩),qEW,.l []],.a [.v (.string ⟨#[98]⟩),qEZ,.l []]]])
theorem qFM:evF ev0 (evC ev0 1000) 73 [qv2] =some [i64 0] :=by kernel_rfl
theorem qGb:evF ev0 (evC ev0 1000) 73 [qwz] =some [i64 0] :=by kernel_rfl
noncomputable def kn1:List (FuncId×List D×List D):= [(73, [qv2], [i64 0]),(73, [qwz], [i64 0])]
noncomputable def ev1:Ev:=⟨Tryz.prog,tbl,Tryz.prog.funcs.toList,muE,qta kn1,fun t=>Nat.beq t 159,fun g=>Nat.beq g 183,qxF,qlK⟩
theorem qF6:evF ev1 (evC ev1 1000) 26 [exD] =some [i64 0] :=by kernel_rfl
noncomputable abbrev quC:D:=quD 0 0 10 8
noncomputable abbrev qly:D:= .l [qv2,qwz]
noncomputable abbrev qxd:D:= .l [.a (((ptD 2 2).cells)++(ptD 4 2).cells),.a (((ptD 4 2).cells)++(ptD 4 4).cells),.a (((ptD 4 4).cells)++(ptD 2 4).cells),.a (((ptD 2 4).cells)++(ptD 2 2).cells),.a (((ptD 3 3).cells)++(ptD 9 3).cells),.a (((ptD 9 3).cells)++(ptD 3 6).cells),.a (((ptD 3 6).cells)++(ptD 3 3).cells)]
noncomputable abbrev qBZ:D:= .l [.a ((ptD 2 2).cells++((ptD 4 2).cells++ [i64 0])),.a ((ptD 4 2).cells++((ptD 4 4).cells++ [i64 1])),.a ((ptD 2 4).cells++((ptD 4 4).cells++ [i64 2])),.a ((ptD 2 2).cells++((ptD 2 4).cells++ [i64 3])),.a ((ptD 3 3).cells++((ptD 9 3).cells++ [i64 4])),.a ((ptD 3 6).cells++((ptD 9 3).cells++ [i64 5])),.a ((ptD 3 3).cells++((ptD 3 6).cells++ [i64 6]))]
noncomputable abbrev qgE:D:= .a (quC.cells++ [qBZ])
noncomputable abbrev xsE:D:= .l [qas 0,qas 2,qas 3,qas 4,qas 9,qas 10]
noncomputable abbrev qB0:D:= .l [qas 0,qas 8]
noncomputable abbrev qCJ:D:= .l [qas 0,qas 2,qas 4,qas 8]
noncomputable abbrev qCu:D:= .l [qas 0,qas 2,qas 3,qas 4,qas 6,qas 8]
noncomputable abbrev qCi:D:= .l [qas 0,qas 2,qas 3,qas 4,qas (11/2),qas 8]
noncomputable abbrev qDq:D:= .l [qas 0,qas 3,qas 8]
noncomputable abbrev qDJ:D:= .l [qas 0,qas 8]
noncomputable abbrev qEy:D:= .l []
noncomputable abbrev qBT:D:= .l [i64 0,i64 2]
noncomputable abbrev qDU:D:= .l [i64 0,i64 4,i64 2,i64 5]
noncomputable abbrev qEp:D:= .l [i64 4,i64 5]
noncomputable abbrev qCh:D:= .l []
noncomputable abbrev qsN:D:= .a (quC.cells++ [qxd,xsE,.l [qB0,qCJ,qCu,qCi,qDq,qDJ],.l [qEy,qBT,qDU,qEp,qCh]])
end Go.Nv
end
