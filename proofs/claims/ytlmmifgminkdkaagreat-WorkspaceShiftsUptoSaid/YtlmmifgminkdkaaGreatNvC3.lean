import Derived.Test.YtlmmifgminkdkaaGreatNvC2
import Derived.Test.YtlmmifgminkdkaaGreatNvP1
import Derived.Test.YtlmmifgminkdkaaGreatNvN5
set_option linter.all false
set_option maxRecDepth 100000
section
namespace Go.Nv
open Go.Proofs Nw
def qGz(n m:Bool)(s t:ByteArray)(x y:Nat):St:=⟨fr 28 [(4,.ptr 0 0 0),(5,.d (.l (us (ln x)))),(6,.d (.l (us (ln y))))], [.box 96 [.d (.v (.bool false)),.d (.v (.string ⟨#[]⟩))]]⟩
theorem gcd_c(n m:Bool)(s t:ByteArray)(hs:s.size<500000000000)(ht:t.size<500000000000):Fun Tryz.prog 130 [intD n s,intD m t] [zD (Nat.gcd (bv s) (bv t):Nat)] :=by
 have h1:=qcM s (by omega)
 have h2:=qcM t (by omega)
 refine qac (fun t=>t==4) mixed tOk Tryz.func130 rfl rfl ?_
 conv=>whnf
 refine qab (qdv s (by omega)) ?_
 conv=>whnf
 refine qab (qdv t (by omega)) ?_
 conv=>whnf
 refine qad (by kernel_rfl) ?_
 conv=>whnf
 refine qah (fun t=>t==4) (fun p:Nat×Nat=>qGz n m s t p.1 p.2) (fun p=>Nat.gcd p.1 p.2=Nat.gcd (bv s) (bv t)/\(ln p.1).length<500000000000/\(ln p.2).length<500000000000) (fun p=>p.2) (bv s,bv t) mixed tOk ⟨rfl,by show (ln (bv s)).length<_;omega,by show (ln (bv t)).length<_;omega⟩ ?_ ?_
 conv=>whnf
 ·refine qag ?_ ?_<;>repeat' (first|exact trivial|exact rfl|apply And.intro)
 ·rintro ⟨x,y⟩ ⟨e,hx,hy⟩
  simp only at e hx hy
  have ly:=qan (ln y)
  conv=>whnf
  refine qaf (fun h3=> ?_) (fun h3=> ?_)
  ·conv=>whnf
   have hy0:0<y:=by
    rcases Nat.eq_zero_or_pos y with h|h
    ·subst h;simp [qaR,us] at h3
    ·exact h
   refine qaa rfl rfl (qnX x y hy0 (by omega) (by omega)) ?_
   conv=>whnf
   refine ⟨(y,x%y),⟨?_,by omega, ?_⟩,Nat.mod_lt _ hy0, ?_⟩
   ·rw [<-e];exact (Nat.gcd_comm _ _).trans (by rw [Nat.gcd_comm x y,Nat.gcd_rec y x,Nat.gcd_comm])
   ·have:=qa1 (Nat.le_of_lt (Nat.mod_lt x hy0));show (ln (x%y)).length<_;omega
   ·refine qag ?_ ?_<;>repeat' (first|exact trivial|exact rfl|apply And.intro)
  ·conv=>whnf
   have h3: ¬((us (ln y)).length:Int)>0:=h3
   have hy0:y=0:=qbP.1 (by omega)
   subst hy0
   refine qaa rfl rfl (qcP false x (by show (ln x).length<_;omega)) ?_
   conv=>whnf
   have e2:sg false x=((Nat.gcd (bv s) (bv t):Nat):Int):=by rw [<-e];simp [sg]
   rw [e2]
   refine ⟨?_,trivial⟩
   conv=>whnf
   exact ⟨rfl,rfl,trivial⟩
theorem qie{a b q r:Int}(h:a=b*q+r)(hr:0<=r/\r<b\/b<r/\r<=0):Int.fdiv a b=q/\Int.fmod a b=r:=by
 have key: ∀{a b q r:Int},a=b*q+r->0<=r->r<b->Int.fdiv a b=q:=fun {a b q r} h h1 h2=>by
  rw [Int.fdiv_eq_ediv_of_nonneg _ (by omega)]
  exact (Int.ediv_eq_iff_of_pos (by omega)).2 ⟨by rw [Int.mul_comm];omega,by rw [Int.mul_comm q b];omega⟩
 have hq:Int.fdiv a b=q:=by
  rcases hr with ⟨h1,h2⟩|⟨h1,h2⟩
  ·exact key h h1 h2
  ·rw [<-Int.neg_fdiv_neg]
   exact key (r:= -r) (by rw [h,Int.neg_add,Int.neg_mul]) (by omega) (by omega)
 refine ⟨hq, ?_⟩
 have:=Int.mul_fdiv_add_fmod a b
 rw [hq] at this
 omega
theorem qkj(n:Bool)(A B:Nat)(hB:B≠0):Int.fdiv (sg n A) (sg n B)=sg false (A/B)/\Int.fmod (sg n A) (sg n B)=sg n (A%B):=by
 have h1:=Nat.div_add_mod A B
 have h2:=Nat.mod_lt A (Nat.pos_of_ne_zero hB)
 have h3:((B*(A/B):Nat):Int)=(B:Int)*((A/B:Nat):Int):=Int.natCast_mul _ _
 generalize A/B=q at*
 generalize A%B=r at*
 refine qie ?_ ?_
 ·unfold sg
  cases n<;>simp only [Bool.false_eq_true,if_false,if_true,Int.neg_mul] <;>omega
 ·unfold sg
  cases n<;>simp only [Bool.false_eq_true,if_false,if_true] <;>omega
theorem qoN(n m:Bool)(hnm:n≠m)(A B:Nat)(hB:B≠0)(hr:A%B=0):Int.fdiv (sg n A) (sg m B)=sg true (A/B)/\Int.fmod (sg n A) (sg m B)=0:=by
 have h1:=Nat.div_add_mod A B
 have h3:((B*(A/B):Nat):Int)=(B:Int)*((A/B:Nat):Int):=Int.natCast_mul _ _
 generalize A/B=q at*
 rw [hr] at h1
 refine qie ?_ ?_
 ·unfold sg
  cases n<;>cases m<;>simp at hnm<;>simp only [Bool.false_eq_true,if_false,if_true,Int.neg_mul,Int.mul_neg] <;>omega
 ·unfold sg
  cases n<;>cases m<;>simp at hnm<;>simp only [Bool.false_eq_true,if_false,if_true] <;>omega
theorem qpv(n m:Bool)(hnm:n≠m)(A B:Nat)(hB:B≠0)(hr:A%B≠0):Int.fdiv (sg n A) (sg m B)=sg true (A/B)-1/\Int.fmod (sg n A) (sg m B)=sg n (A%B)+sg m B:=by
 have h1:=Nat.div_add_mod A B
 have h2:=Nat.mod_lt A (Nat.pos_of_ne_zero hB)
 have h3:((B*(A/B):Nat):Int)=(B:Int)*((A/B:Nat):Int):=Int.natCast_mul _ _
 generalize A/B=q at*
 generalize A%B=r at*
 refine qie ?_ ?_
 ·unfold sg
  cases n<;>cases m<;>simp at hnm<;>simp only [Bool.false_eq_true,if_false,if_true,Int.neg_mul,Int.mul_neg,Int.mul_sub] <;>omega
 ·unfold sg
  cases n<;>cases m<;>simp at hnm<;>simp only [Bool.false_eq_true,if_false,if_true] <;>omega
theorem qms(z:Int):sg (ng z) (bv (nb z.natAbs))=z:=by
 rw [qbs,qbo]
 unfold sg
 by_cases h:z<0<;>simp [h] <;>omega
theorem qhl{a k:Nat}(h:a<256^k):(nb a).size<=k:=by rw [qdn];exact qba h
theorem qAv(n m:Bool)(s t:ByteArray)(hs:s.size<500000000000)(ht:t.size<500000000000)(h0:bv t≠0):
  Fun Tryz.prog 131 [intD n s,intD m t] [zD (Int.fdiv (sg n (bv s)) (sg m (bv t))),zD (Int.fmod (sg n (bv s)) (sg m (bv t))),i64 0] :=by
 have h1:=qcM s (by omega)
 have h2:=qcM t (by omega)
 have lt:=qan (ln (bv t))
 have ht0:(ln (bv t)).length≠0:=fun h=>h0 (qbP.1 h)
 refine qac (fun t=>t==4||t==5||t==10||t==11) mixed tOk Tryz.func131 rfl rfl ?_
 conv=>whnf
 refine qaa rfl rfl (qdv t (by omega)) ?_
 conv=>whnf
 refine qa4 (fun h=>by omega) (fun h=> ?_)
 conv=>whnf
 refine qaa rfl rfl (qdv s (by omega)) ?_
 conv=>whnf
 have hq:=qa1 (Nat.div_le_self (bv s) (bv t))
 have hr:=qa1 (Nat.mod_le (bv s) (bv t))
 refine qaa rfl rfl (qnX _ _ (by omega) (by omega) (by omega)) ?_
 conv=>whnf
 refine qab (qcP _ _ (by omega)) ?_
 conv=>whnf
 refine qab (qcP n _ (by omega)) ?_
 conv=>whnf
 refine qad (by kernel_rfl) ?_
 conv=>whnf
 have hA:bv s<256^s.size:=qaV _
 have hq':(sg (n !=m) (bv s/bv t)).natAbs<256^s.size:=by rw [qdV];exact Nat.lt_of_le_of_lt (Nat.div_le_self _ _) hA
 have hr':(sg n (bv s%bv t)).natAbs<256^s.size:=by rw [qdV];exact Nat.lt_of_le_of_lt (Nat.mod_le _ _) hA
 have sq:=qhl hq'
 have sr:=qhl hr'
 generalize hz:sg (n !=m) (bv s/bv t)=z at*
 generalize hy:sg n (bv s%bv t)=y at*
 refine qbx (fun h5=> ?_) (fun h5=> ?_)
 ·conv=>whnf
  have hr0:bv s%bv t≠0:=by
   intro h
   have hy0:y=0:=by rw [<-hy,h];cases n<;>rfl
   rw [hy0,show (0:Int).natAbs=0 from rfl,qgg,qbM] at h5
   simp [emp] at h5
  refine qbx (fun h6=> ?_) (fun h6=> ?_)
  ·conv=>whnf
   refine qab (qva 1 (by omega)) ?_
   conv=>whnf
   refine qab (qEf _ _ _ _ (by have e:sg (bz (!(n==m))) (bv s/bv t)=z:=by {rw [qaJ];exact hz};rw [e];omega) (by decide)) ?_
   conv=>whnf
   refine qab (qxC _ _ _ _ (by omega) ht) ?_
   conv=>whnf
   refine qad (by kernel_rfl) ?_
   conv=>whnf
   refine qad (by kernel_rfl) ?_
   conv=>whnf
   obtain ⟨e1,e2⟩:=qpv n m (by simpa using h6) (bv s) (bv t) h0 hr0
   have e3:sg (bz (!(n==m))) (bv s/bv t)=sg true (bv s/bv t):=by rw [qaJ,h6]
   rw [e3,e1,e2,qms,qms,qms, <-hy]
   exact ⟨⟨rfl,rfl,trivial⟩,⟨rfl,rfl,trivial⟩,rfl,trivial⟩
  ·conv=>whnf
   refine qad (by kernel_rfl) ?_
   conv=>whnf
   have hnm:n=m:=by simpa using h6
   obtain ⟨e1,e2⟩:=qkj n (bv s) (bv t) h0
   have e3:sg (bz (!(n==m))) (bv s/bv t)=sg false (bv s/bv t):=by rw [qaJ,h6]
   subst hnm
   rw [e3,e1,e2, <-hy]
   exact ⟨⟨rfl,rfl,trivial⟩,⟨rfl,rfl,trivial⟩,rfl,trivial⟩
 ·conv=>whnf
  refine qad (by kernel_rfl) ?_
  conv=>whnf
  have hr0:bv s%bv t=0:=by
   have h7:nb y.natAbs=emp:=by
    have:(nb y.natAbs==(⟨#[]⟩:ByteArray))=true:=by simpa using h5
    rw [qbM] at this
    exact of_decide_eq_true this
   have:=qkz.1 h7
   rw [<-hy,qdV] at this
   exact this
  have hy0:y=0:=by rw [<-hy,hr0];cases n<;>rfl
  have e:Int.fdiv (sg n (bv s)) (sg m (bv t))=sg (bz (!(n==m))) (bv s/bv t)/\Int.fmod (sg n (bv s)) (sg m (bv t))=0:=by
   rw [qaJ]
   by_cases hnm:n=m
   ·subst hnm
    obtain ⟨e1,e2⟩:=qkj n (bv s) (bv t) h0
    rw [e1,e2,hr0]
    refine ⟨by simp,by cases n<;>rfl⟩
   ·obtain ⟨e1,e2⟩:=qoN n m hnm (bv s) (bv t) h0 hr0
    refine ⟨?_,e2⟩
    rw [e1,show (n==m)=false by simpa using hnm];rfl
  rw [e.1,e.2,hy0]
  exact ⟨⟨rfl,rfl,trivial⟩,⟨rfl,rfl,trivial⟩,rfl,trivial⟩
abbrev rdD(r:RD):D:= .a [.v (.bool r.neg),.v (.string r.num),.v (.string r.den)]
@[irreducible] def qd4(q:Rat):Bool:=(canon q).neg
@[irreducible] def qeo(q:Rat):ByteArray:=(canon q).num
@[irreducible] def qeg(q:Rat):ByteArray:=(canon q).den
abbrev qas(q:Rat):D:= .a [.v (.bool (qd4 q)),.v (.string (qeo q)),.v (.string (qeg q))]
theorem qaO(q:Rat):qas q=rdD (canon q):=by unfold qas rdD qd4 qeo qeg;rfl
@[irreducible] def isZ(z k:Int):Bool:=decide (z=k)
theorem qmO(z k:Int):isZ z k=decide (z=k):=by unfold isZ;rfl
theorem qkq(n:Bool)(s:ByteArray):Fun Tryz.prog 136 [.v (.bool n),.v (.string s)] [intD n s] :=by
 refine qac (fun t=>t==4) mixed tOk Tryz.func136 rfl rfl ?_
 conv=>whnf
 exact ⟨⟨rfl,rfl,trivial⟩,trivial⟩
theorem qvG(z k:Int):(qgK z k==0)=isZ z k:=by
 rw [qmO]
 unfold qgK
 by_cases h:z=k
 ·subst h;simp
 ·by_cases h2:z<k
  ·simp [h,h2]
  ·have h3:k<z:=by omega
   simp [h,h2,h3]
theorem qDz(n:Bool)(s:ByteArray)(k:Int)(hs:s.size<1000000000000)(hk: -9223372036854775808<=k/\k<=9223372036854775807):Fun Tryz.prog 129 [intD n s,i64 k] [.v (.bool (isZ (sg n (bv s)) k))] :=by
 refine qac (fun t=>false) mixed tOk Tryz.func129 rfl rfl ?_
 conv=>whnf
 refine qab (qva k hk) ?_
 conv=>whnf
 have hz:(nb k.natAbs).size<=8:=qhl (by have:(256:Nat)^8=18446744073709551616:=rfl;omega)
 refine qab (qeC _ _ _ _ hs (by omega)) ?_
 conv=>whnf
 refine qad (by kernel_rfl) ?_
 conv=>whnf
 refine ⟨?_,trivial⟩
 conv=>whnf
 rw [qms,qaJ]
 exact qvG _ _
@[irreducible] def dn(t:ByteArray):ByteArray:=if bv t=0 then nb 1 else t
theorem qgI(t:ByteArray):bv (dn t)=dv t:=by
 unfold dn dv
 split
 ·rw [qbo]
 ·rfl
theorem qdd(t:ByteArray):(dn t).size<=t.size+1:=by
 unfold dn
 split
 ·have:=qhl (a:=1) (k:=1) (by decide);omega
 ·omega
abbrev frD(n:Bool)(s:ByteArray)(m:Bool)(t:ByteArray):D:= .a [.v (.bool n),.v (.string s),.v (.bool m),.v (.string t)]
abbrev ofD(r:RD):D:=frD r.neg r.num false (dn r.den)
theorem qgd(r:RD)(hs:r.den.size<1000000000000):Fun Tryz.prog 69 [rdD r] [ofD r] :=by
 refine qac (fun t=>t==2||t==3) mixed tOk Tryz.func69 rfl rfl ?_
 conv=>whnf
 refine qab (qkq _ _) ?_
 conv=>whnf
 refine qab (qkq _ _) ?_
 conv=>whnf
 refine qad (by kernel_rfl) ?_
 conv=>whnf
 refine qaa rfl rfl (qDz false r.den 0 hs (by omega)) ?_
 conv=>whnf
 rw [qmO]
 refine qal (fun h=> ?_) (fun h=> ?_)
 ·conv=>whnf
  refine qaa rfl rfl (qva 1 (by omega)) ?_
  conv=>whnf
  have h0:bv r.den=0:=by have:=of_decide_eq_true h;simpa [sg] using this
  have e:dn r.den=nb (Int.natAbs 1):=by unfold dn;rw [if_pos h0];rfl
  refine ⟨?_,trivial⟩
  conv=>whnf
  exact ⟨rfl,rfl,by rw [qbs];rfl,e.symm,trivial⟩
 ·conv=>whnf
  have h0:bv r.den≠0:=by have:=of_decide_eq_false h;simpa [sg] using this
  have e:dn r.den=r.den:=by unfold dn;rw [if_neg h0]
  refine ⟨?_,trivial⟩
  conv=>whnf
  exact ⟨rfl,rfl,rfl,e.symm,trivial⟩
theorem qdM(z:Int){d:Nat}(hd:d≠0):(mkRat z d).num=z/(Nat.gcd z.natAbs d:Nat)/\(mkRat z d).den=d/Nat.gcd z.natAbs d:=by
 rw [<-Rat.normalize_eq_mkRat hd,Rat.num_normalize,Rat.den_normalize]
 exact ⟨rfl,rfl⟩
theorem qjr(n:Bool)(s:ByteArray)(m:Bool)(t:ByteArray)(hm:m=false)(ht:bv t≠0)(hs:s.size<500000000000)(hts:t.size<500000000000):
  Fun Tryz.prog 66 [frD n s m t] [qas (mkRat (sg n (bv s)) (bv t))] :=by
 subst hm
 obtain ⟨p1,p2⟩:=qdM (sg n (bv s)) ht
 rw [qdV] at p1 p2
 rw [qaO]
 have hg:Nat.gcd (bv s) (bv t)≠0:=fun h=>ht (Nat.gcd_eq_zero_iff.1 h).2
 generalize hgg:Nat.gcd (bv s) (bv t)=g at*
 have hgt:g<=bv t:=by rw [<-hgg];exact Nat.le_of_dvd (by omega) (Nat.gcd_dvd_right _ _)
 have hB:bv t<256^t.size:=qaV _
 have sg1:(nb (Int.natAbs (g:Int))).size<=t.size:=qhl (by omega)
 refine qac (fun t=>t==2||t==3||t==4||t==5||t==7||t==8||t==10) mixed tOk Tryz.func66 rfl rfl ?_
 conv=>whnf
 refine qaa rfl rfl (qDz n s 0 (by omega) (by omega)) ?_
 conv=>whnf
 rw [qmO]
 refine qal (fun h=> ?_) (fun h=> ?_)
 ·conv=>whnf
  have h0:sg n (bv s)=0:=of_decide_eq_true h
  rw [h0]
  have e:canon (mkRat 0 (bv t))=⟨false,emp,emp⟩:=by rw [Rat.zero_mkRat];decide
  rw [e]
  refine ⟨?_,trivial⟩
  conv=>whnf
  exact ⟨rfl,rfl,rfl,trivial⟩
 ·conv=>whnf
  have h0:sg n (bv s)≠0:=of_decide_eq_false h
  refine qa5 rfl rfl (gcd_c n false s t hs hts) rfl ?_
  conv=>whnf
  rw [hgg]
  refine qaa rfl rfl (qAv _ _ _ _ hs (by omega) (by rw [qbo];exact_mod_cast hg)) ?_
  conv=>whnf
  refine qaa rfl rfl (qAv false _ t _ hts (by omega) (by rw [qbo];exact_mod_cast hg)) ?_
  conv=>whnf
  have q1:(sg n (bv s)).fdiv (sg (ng (g:Int)) (bv (nb (g:Int).natAbs)))=(mkRat (sg n (bv s)) (bv t)).num:=by
   rw [qms,p1,Int.fdiv_eq_ediv_of_nonneg _ (by omega)]
  have q2:(sg false (bv t)).fdiv (sg (ng (g:Int)) (bv (nb (g:Int).natAbs)))=((mkRat (sg n (bv s)) (bv t)).den:Int):=by
   rw [qms,p2,Int.fdiv_eq_ediv_of_nonneg _ (by omega)];rfl
  rw [q1,q2]
  have hden:(mkRat (sg n (bv s)) (bv t)).den<=bv t:=by rw [p2];exact Nat.div_le_self _ _
  generalize mkRat (sg n (bv s)) (bv t)=q at*
  refine qaa rfl rfl (qDz _ _ 1 (by have:=qhl (a:=(q.den:Int).natAbs) (k:=t.size) (by omega);omega) (by omega)) ?_
  conv=>whnf
  rw [qmO,qms]
  refine qbn (fun h1=> ?_) (fun h1=> ?_)
  ·conv=>whnf
   have h2:q.den≠1:=by have:=of_decide_eq_false h1;omega
   refine ⟨?_,trivial⟩
   conv=>whnf
   unfold canon
   rw [if_neg h2]
   exact ⟨qbs _,rfl,rfl,trivial⟩
  ·conv=>whnf
   have h2:q.den=1:=by have:=of_decide_eq_true h1;omega
   refine ⟨?_,trivial⟩
   conv=>whnf
   unfold canon
   rw [if_pos h2]
   exact ⟨qbs _,rfl,rfl,trivial⟩
theorem qnH(s:ByteArray)(hs:s.size<=7):Fun Tryz.prog 176 [.v (.string s)] [i64 (bv s)] :=by
 refine qac (fun t=>false) mixed tOk Tryz.func176 rfl rfl ?_
 conv=>whnf
 refine qah (fun t=>false) (fun i:Nat=>⟨fr 19 [(0,.d (.v (.string s))),(3,.d (i64 (pre s i))),(6,.d (i64 s.size)),(7,.d (i64 i))], []⟩) (fun i=>i<=s.size) (fun i=>s.size-i) 0 mixed tOk (Nat.zero_le _) ?_ ?_
 ·refine qag ?_ ?_<;>repeat' (first|exact trivial|exact rfl|apply And.intro)
 ·intro i hi
  conv=>whnf
  refine qaf (fun h2=> ?_) (fun h2=> ?_)<;>conv=>whnf
  ·obtain ⟨p1,p2⟩:=qew s i (by omega)
   have hp:=p54 (s:=s) (i:=i) (by omega) hs
   have h8:=sh8 (pre s i)
   refine qcZ (by omega) (by omega) ?_
   conv=>whnf
   refine qak (by omega) ?_
   conv=>whnf
   generalize s.data.toList[i]'_=b at p1 p2
   have hb:=b.toNat_lt
   refine qak (by rw [p1];omega) ?_
   conv=>whnf
   refine qak (by omega) ?_
   conv=>whnf
   refine ⟨i+1,by omega,by omega, ?_⟩
   refine qag ?_ ?_<;>repeat' (first|exact trivial|exact rfl|apply And.intro)
   conv=>whnf
   rw [p1,p2,h8]
   exact qqN _ _ (by omega) hp
  ·have hi2:i=s.size:=by omega
   refine ⟨?_,trivial⟩
   conv=>whnf
   rw [hi2,qe1]
@[irreducible] def smB(r:RD):Bool:=decide (r.num.size<=3/\r.den.size<=3)
theorem qnt(r:RD):smB r=decide (r.num.size<=3/\r.den.size<=3):=by unfold smB;rfl
@[irreducible] def smN(r:RD):Int:=if smB r then sg r.neg (bv r.num) else 0
@[irreducible] def smD(r:RD):Int:=if smB r then (dv r.den:Int) else 0
theorem bv3{s:ByteArray}(h:s.size<=3):bv s<16777216:=by
 have h1:bv s<256^s.size:=qaV _
 have h2:256^s.size<=256^3:=Nat.pow_le_pow_right (by omega) h
 have h3:(256:Nat)^3=16777216:=rfl
 omega
theorem qfj(r:RD):Fun Tryz.prog 124 [rdD r] [i64 (smN r),i64 (smD r),.v (.bool (smB r))] :=by
 refine qac (fun t=>false) mixed tOk Tryz.func124 rfl rfl ?_
 conv=>whnf
 refine qaf (fun h1=> ?_) (fun h1=> ?_)<;>conv=>whnf
 ·have hb:smB r=false:=by rw [qnt];simp;omega
  refine ⟨?_, ?_, ?_,trivial⟩
  ·conv=>whnf
   unfold smN;rw [hb];rfl
  ·conv=>whnf
   unfold smD;rw [hb];rfl
  ·conv=>whnf
   exact hb.symm
 ·refine qaf (fun h2=> ?_) (fun h2=> ?_)<;>conv=>whnf
  ·have hb:smB r=false:=by rw [qnt];simp;omega
   refine ⟨?_, ?_, ?_,trivial⟩
   ·conv=>whnf
    unfold smN;rw [hb];rfl
   ·conv=>whnf
    unfold smD;rw [hb];rfl
   ·conv=>whnf
    exact hb.symm
  ·have hb:smB r=true:=by rw [qnt];simp;omega
   have b1:=bv3 (s:=r.num) (by omega)
   have b2:=bv3 (s:=r.den) (by omega)
   refine qab (qnH r.num (by omega)) ?_
   conv=>whnf
   refine qab (qnH r.den (by omega)) ?_
   conv=>whnf
   refine qad (by kernel_rfl) ?_
   conv=>whnf
   have e:(if ((bv r.den:Nat):Int)<1 then (1:Int) else ((bv r.den:Nat):Int))=smD r:=by
    unfold smD;rw [hb,if_pos rfl];unfold dv;split<;>split<;>omega
   have e1: ∀n,r.neg=n->sg n (bv r.num)=smN r:=fun n hn=>by
    unfold smN;rw [hb,if_pos rfl,hn]
   refine qal (fun h3=> ?_) (fun h3=> ?_)
   ·conv=>whnf
    refine qak (by omega) ?_
    conv=>whnf
    refine ⟨?_,e,hb.symm,trivial⟩
    conv=>whnf
    rw [<-e1 _ h3];simp [sg]
   ·conv=>whnf
    refine ⟨?_,e,hb.symm,trivial⟩
    conv=>whnf
    rw [<-e1 _ h3];simp [sg]
def tl:Nat->Nat->List UInt8
 |0,_=> []
 |k+1,n=>tl k (n/256)++ [UInt8.ofNat (n%256)]
theorem qt4: ∀(k n:Nat),n<256^k->(k≠0->256^(k-1)<=n)->nbl n=tl k n
 |0,n,h,_=>by
  have:n=0:=by simpa using h
  subst this;rw [qaP];rfl
 |k+1,n,h,h2=>by
  have h0:n≠0:=by
   have:=h2 (by omega)
   have h3:0<256^(k+1-1):=Nat.pow_pos (by omega)
   omega
  rw [qbL h0,tl,qt4 k (n/256) (by rw [Nat.div_lt_iff_lt_mul (by omega), <-Nat.pow_succ];exact h) (fun hk=>by
   rw [Nat.le_div_iff_mul_le (by omega), <-Nat.pow_succ]
   have:=h2 (by omega)
   rwa [show (k-1).succ=k+1-1 by omega])]
def tD(k n j:Nat):D:= .v (.int .u8 (if j<k then ((n/256^j%256:Nat):Int) else 0))
def tSt(k n:Nat):St:=⟨fr 18 [(0,.d (i64 ((n/256^k:Nat):Int))),(3,.ptr 0 0 0),(4,.d (i64 (8-(k:Int))))], [.box 195 [.d (tD k n 7),.d (tD k n 6),.d (tD k n 5),.d (tD k n 4),.d (tD k n 3),.d (tD k n 2),.d (tD k n 1),.d (tD k n 0)]]⟩
theorem qyU(k n:Nat)(hk:k<=8):qcu [tD k n 7,tD k n 6,tD k n 5,tD k n 4,tD k n 3,tD k n 2,tD k n 1,tD k n 0] (8-(k:Int)).toNat 8=by8 (tl k n):=by
 have hkk:k=0\/k=1\/k=2\/k=3\/k=4\/k=5\/k=6\/k=7\/k=8:=by omega
 rcases hkk with rfl|rfl|rfl|rfl|rfl|rfl|rfl|rfl|rfl<;>simp [qcu,tl,by8,tD,Nat.div_div_eq_div_mul]
theorem qdP{k n:Nat}(hk:k<=8)(h:n<256^k)(h2:k≠0->256^(k-1)<=n):
  qgj (qcu [tD k n 7,tD k n 6,tD k n 5,tD k n 4,tD k n 3,tD k n 2,tD k n 1,tD k n 0] (8-(k:Int)).toNat 8)=nb n:=by
 rw [qyU k n hk,qmq, <-qt4 k n h h2];rfl
theorem qGp(n:Nat):Int.fdiv (n:Int) (2^min (Int.toNat 8) IntKind.i64.bits)=((n/256:Nat):Int):=by
 have:((2:Int)^min (Int.toNat 8) IntKind.i64.bits)=256:=by decide
 rw [this,Int.fdiv_eq_ediv_of_nonneg _ (by decide)];rfl
theorem quB(n:Nat)(hn:n<9223372036854775808):Fun Tryz.prog 125 [i64 n] [.v (.string (nb n))] :=by
 refine qac (fun t=>t==3) mixed tOk Tryz.func125 rfl rfl ?_
 conv=>whnf
 refine qah (fun t=>t==3) (fun k:Nat=>tSt k n) (fun k=>k<=8/\(k≠0->256^(k-1)<=n)) (fun k=>8-k) 0 mixed tOk ⟨by omega,by omega⟩ ?_ ?_
 conv=>whnf
 ·refine qag ?_ ?_<;>repeat' (first|exact trivial|exact rfl|apply And.intro)
  conv=>whnf
  rw [Nat.pow_zero,Nat.div_one]
 ·rintro k ⟨hk,hk2⟩
  have hkk:k=0\/k=1\/k=2\/k=3\/k=4\/k=5\/k=6\/k=7\/k=8:=by omega
  have hlt: ∀k:Nat,¬((n/256^k:Nat):Int)>0->n<256^k:=fun k h=>by
   have h0:n/256^k=0:=by generalize n/256^k=q at h;omega
   exact (Nat.div_eq_zero_iff.1 h0).resolve_left (Nat.ne_of_gt (Nat.pow_pos (by omega)))
  have hge: ∀k:Nat,((n/256^k:Nat):Int)>0->256^k<=n:=fun k h=>by
   rcases Nat.lt_or_ge n (256^k) with h1|h1
   ·rw [Nat.div_eq_of_lt h1] at h;omega
   ·exact h1
  have hsh: ∀k:Nat,Int.fdiv ((n/256^k:Nat):Int) (2^min (Int.toNat 8) IntKind.i64.bits)=((n/256^(k+1):Nat):Int):=fun k=>by
   rw [qGp,Nat.div_div_eq_div_mul, <-Nat.pow_succ]
  rcases hkk with rfl|rfl|rfl|rfl|rfl|rfl|rfl|rfl|rfl
  ·conv=>whnf
   refine qaf (fun h=> ?_) (fun h=> ?_)
   ·conv=>whnf
    refine qak (by omega) ?_
    conv=>whnf
    refine qak (by omega) ?_
    conv=>whnf
    refine qak (by omega) ?_
    conv=>whnf
    refine ⟨0+1,⟨by omega,fun _=>hge 0 h⟩,by omega, ?_⟩
    refine qag ?_ ?_<;>repeat' (first|exact trivial|exact rfl|apply And.intro)
    all_goals conv=>whnf
    exact hsh 0
   ·conv=>whnf
    refine qak (by simp only [maxLen];omega) ?_
    conv=>whnf
    refine qaB (by rfl) ?_
    conv=>whnf
    refine ⟨?_,trivial⟩
    conv=>whnf
    exact qdP (k:=0) hk (hlt 0 h) hk2
  ·conv=>whnf
   refine qaf (fun h=> ?_) (fun h=> ?_)
   ·conv=>whnf
    refine qak (by omega) ?_
    conv=>whnf
    refine qak (by omega) ?_
    conv=>whnf
    refine qak (by omega) ?_
    conv=>whnf
    refine ⟨1+1,⟨by omega,fun _=>hge 1 h⟩,by omega, ?_⟩
    refine qag ?_ ?_<;>repeat' (first|exact trivial|exact rfl|apply And.intro)
    all_goals conv=>whnf
    exact hsh 1
   ·conv=>whnf
    refine qak (by simp only [maxLen];omega) ?_
    conv=>whnf
    refine qaB (by rfl) ?_
    conv=>whnf
    refine ⟨?_,trivial⟩
    conv=>whnf
    exact qdP (k:=1) hk (hlt 1 h) hk2
  ·conv=>whnf
   refine qaf (fun h=> ?_) (fun h=> ?_)
   ·conv=>whnf
    refine qak (by omega) ?_
    conv=>whnf
    refine qak (by omega) ?_
    conv=>whnf
    refine qak (by omega) ?_
    conv=>whnf
    refine ⟨2+1,⟨by omega,fun _=>hge 2 h⟩,by omega, ?_⟩
    refine qag ?_ ?_<;>repeat' (first|exact trivial|exact rfl|apply And.intro)
    all_goals conv=>whnf
    exact hsh 2
   ·conv=>whnf
    refine qak (by simp only [maxLen];omega) ?_
    conv=>whnf
    refine qaB (by rfl) ?_
    conv=>whnf
    refine ⟨?_,trivial⟩
    conv=>whnf
    exact qdP (k:=2) hk (hlt 2 h) hk2
  ·conv=>whnf
   refine qaf (fun h=> ?_) (fun h=> ?_)
   ·conv=>whnf
    refine qak (by omega) ?_
    conv=>whnf
    refine qak (by omega) ?_
    conv=>whnf
    refine qak (by omega) ?_
    conv=>whnf
    refine ⟨3+1,⟨by omega,fun _=>hge 3 h⟩,by omega, ?_⟩
    refine qag ?_ ?_<;>repeat' (first|exact trivial|exact rfl|apply And.intro)
    all_goals conv=>whnf
    exact hsh 3
   ·conv=>whnf
    refine qak (by simp only [maxLen];omega) ?_
    conv=>whnf
    refine qaB (by rfl) ?_
    conv=>whnf
    refine ⟨?_,trivial⟩
    conv=>whnf
    exact qdP (k:=3) hk (hlt 3 h) hk2
  ·conv=>whnf
   refine qaf (fun h=> ?_) (fun h=> ?_)
   ·conv=>whnf
    refine qak (by omega) ?_
    conv=>whnf
    refine qak (by omega) ?_
    conv=>whnf
    refine qak (by omega) ?_
    conv=>whnf
    refine ⟨4+1,⟨by omega,fun _=>hge 4 h⟩,by omega, ?_⟩
    refine qag ?_ ?_<;>repeat' (first|exact trivial|exact rfl|apply And.intro)
    all_goals conv=>whnf
    exact hsh 4
   ·conv=>whnf
    refine qak (by simp only [maxLen];omega) ?_
    conv=>whnf
    refine qaB (by rfl) ?_
    conv=>whnf
    refine ⟨?_,trivial⟩
    conv=>whnf
    exact qdP (k:=4) hk (hlt 4 h) hk2
  ·conv=>whnf
   refine qaf (fun h=> ?_) (fun h=> ?_)
   ·conv=>whnf
    refine qak (by omega) ?_
    conv=>whnf
    refine qak (by omega) ?_
    conv=>whnf
    refine qak (by omega) ?_
    conv=>whnf
    refine ⟨5+1,⟨by omega,fun _=>hge 5 h⟩,by omega, ?_⟩
    refine qag ?_ ?_<;>repeat' (first|exact trivial|exact rfl|apply And.intro)
    all_goals conv=>whnf
    exact hsh 5
   ·conv=>whnf
    refine qak (by simp only [maxLen];omega) ?_
    conv=>whnf
    refine qaB (by rfl) ?_
    conv=>whnf
    refine ⟨?_,trivial⟩
    conv=>whnf
    exact qdP (k:=5) hk (hlt 5 h) hk2
  ·conv=>whnf
   refine qaf (fun h=> ?_) (fun h=> ?_)
   ·conv=>whnf
    refine qak (by omega) ?_
    conv=>whnf
    refine qak (by omega) ?_
    conv=>whnf
    refine qak (by omega) ?_
    conv=>whnf
    refine ⟨6+1,⟨by omega,fun _=>hge 6 h⟩,by omega, ?_⟩
    refine qag ?_ ?_<;>repeat' (first|exact trivial|exact rfl|apply And.intro)
    all_goals conv=>whnf
    exact hsh 6
   ·conv=>whnf
    refine qak (by simp only [maxLen];omega) ?_
    conv=>whnf
    refine qaB (by rfl) ?_
    conv=>whnf
    refine ⟨?_,trivial⟩
    conv=>whnf
    exact qdP (k:=6) hk (hlt 6 h) hk2
  ·conv=>whnf
   refine qaf (fun h=> ?_) (fun h=> ?_)
   ·conv=>whnf
    refine qak (by omega) ?_
    conv=>whnf
    refine qak (by omega) ?_
    conv=>whnf
    refine qak (by omega) ?_
    conv=>whnf
    refine ⟨7+1,⟨by omega,fun _=>hge 7 h⟩,by omega, ?_⟩
    refine qag ?_ ?_<;>repeat' (first|exact trivial|exact rfl|apply And.intro)
    all_goals conv=>whnf
    exact hsh 7
   ·conv=>whnf
    refine qak (by simp only [maxLen];omega) ?_
    conv=>whnf
    refine qaB (by rfl) ?_
    conv=>whnf
    refine ⟨?_,trivial⟩
    conv=>whnf
    exact qdP (k:=7) hk (hlt 7 h) hk2
  ·conv=>whnf
   refine qaf (fun h=> ?_) (fun h=> ?_)
   ·conv=>whnf
    exact absurd h (by have:n/256^8=0:=Nat.div_eq_of_lt (Nat.lt_of_lt_of_le hn (by decide));omega)
   ·conv=>whnf
    refine qak (by simp only [maxLen];omega) ?_
    conv=>whnf
    refine qaB (by rfl) ?_
    conv=>whnf
    refine ⟨?_,trivial⟩
    conv=>whnf
    exact qdP (k:=8) hk (hlt 8 h) hk2
theorem ql0(q:Rat):qd4 q=decide (q.num<0):=by unfold qd4 canon;rfl
theorem qmn(q:Rat):qeo q=nb q.num.natAbs:=by unfold qeo canon;rfl
theorem qjj(q:Rat):qeg q=if q.den=1 then emp else nb q.den:=by unfold qeg canon;rfl
def qFK(n d:Int)(x y:Int):St:=⟨fr 43 [(0,.d (i64 n)),(1,.d (i64 d)),(4,.ptr 0 0 0),(5,.d (i64 x)),(6,.d (i64 y))], [.box 23 [.d (.v (.bool false)),.d (.v (.string ⟨#[]⟩)),.d (.v (.string ⟨#[]⟩))]]⟩
theorem qrv(n d:Int)(hn: -4000000000000000000<n/\n<4000000000000000000)(hd:0<d/\d<4000000000000000000):Fun Tryz.prog 63 [i64 n,i64 d] [qas (mkRat n d.toNat)] :=by
 refine qac (fun t=>t==4||t==8) mixed tOk Tryz.func63 rfl rfl ?_
 conv=>whnf
 refine qah (fun t=>t==4||t==8) (fun p:Int×Int=>qFK n d p.1 p.2) (fun p=>Nat.gcd p.1.natAbs p.2.natAbs=Nat.gcd n.natAbs d.natAbs/\p.1.natAbs<4000000000000000000/\p.2.natAbs<4000000000000000000) (fun p=>p.2.natAbs) (n,d) mixed tOk ⟨rfl,by show n.natAbs<_;omega,by show d.natAbs<_;omega⟩ ?_ ?_
 conv=>whnf
 ·refine qag ?_ ?_<;>repeat' (first|exact trivial|exact rfl|apply And.intro)
 ·rintro ⟨x,y⟩ ⟨e,hx,hy⟩
  simp only at e hx hy
  show go _ _ _ _ (qFK n d x y) _
  conv=>whnf
  refine qav (fun h=> ?_) (fun h=> ?_)
  ·conv=>whnf
   refine qak h ?_
   conv=>whnf
   refine qad (by kernel_rfl) ?_
   conv=>whnf
   have e1:(x.tmod y).natAbs=x.natAbs%y.natAbs:=Int.natAbs_tmod x y
   have e2:=Nat.mod_lt x.natAbs (show 0<y.natAbs by omega)
   refine ⟨(y,x.tmod y),⟨?_,by show y.natAbs<_;omega,by show (x.tmod y).natAbs<_;omega⟩,by show (x.tmod y).natAbs<y.natAbs;omega, ?_⟩
   ·show Nat.gcd y.natAbs (x.tmod y).natAbs=_
    rw [e1, <-e];exact (Nat.gcd_comm _ _).trans ((Nat.gcd_rec y.natAbs x.natAbs).symm.trans (Nat.gcd_comm _ _))
   ·refine qag ?_ ?_<;>repeat' (first|exact trivial|exact rfl|apply And.intro)
  ·subst h
   have hG:x.natAbs=Nat.gcd n.natAbs d.natAbs:=by rw [<-e];simp
   have hdd:(d.toNat:Int)=d:=by omega
   have hdn:d.natAbs=d.toNat:=by omega
   rw [hdn] at hG
   have hd0:d.toNat≠0:=by omega
   have hG0:Nat.gcd n.natAbs d.toNat≠0:=fun h=>hd0 (Nat.gcd_eq_zero_iff.1 h).2
   obtain ⟨p1,p2⟩:=qdM n hd0
   have hgd:Nat.gcd n.natAbs d.toNat<=d.toNat:=Nat.le_of_dvd (by omega) (Nat.gcd_dvd_right _ _)
   have hdg0:Nat.gcd n.natAbs d.toNat∣d.toNat:=Nat.gcd_dvd_right _ _
   have hdv:Nat.gcd n.natAbs d.toNat∣n.natAbs:=Nat.gcd_dvd_left _ _
   generalize Nat.gcd n.natAbs d.toNat=G at*
   conv=>whnf
   refine qak (by omega) ?_
   conv=>whnf
   have hmx: ∀z:Int,(if z< -z then-z else z)=(z.natAbs:Int):=fun z=>by split<;>omega
   have hmx2: ∀z:Int,(if z<0-z then 0-z else z)=(z.natAbs:Int):=fun z=>by split<;>omega
   refine qa4 (fun h0=> ?_) (fun h0=> ?_)
   ·conv=>whnf
    refine ⟨?_,trivial⟩
    subst h0
    rw [qaO]
    conv=>whnf
    have ec:canon (mkRat 0 d.toNat)=⟨false,emp,emp⟩:=by rw [Rat.zero_mkRat];decide
    rw [ec]
    exact ⟨rfl,rfl,rfl,trivial⟩
   ·conv=>whnf
    refine qak (by omega) ?_
    conv=>whnf
    have etd: ∀a b:Nat,Int.tdiv (a:Int) (b:Int)=((a/b:Nat):Int):=fun a b=>by
     rw [Int.tdiv_eq_ediv_of_nonneg (by omega)];rfl
    have hq:=Nat.div_le_self n.natAbs G
    have hq2:=Nat.div_le_self d.toNat G
    rw [hmx2,hmx2,hG,etd]
    obtain ⟨u,hu⟩: ∃u,u=n.natAbs/G:=⟨_,rfl⟩
    rw [<-hu] at hq ⊢
    refine qcZ (by omega) (by omega) ?_
    conv=>whnf
    refine qaa rfl rfl (quB u (by omega)) ?_
    conv=>whnf
    have hdvI:(G:Int)∣n:=Int.ofNat_dvd_left.2 hdv
    have e1:nb u=qeo (mkRat n d.toNat):=by
     rw [qmn,p1,Int.natAbs_ediv_of_dvd hdvI,hu];rfl
    have e2:decide (n<0)=qd4 (mkRat n d.toNat):=by
     rw [ql0,p1]
     by_cases hneg:n<0
     ·simp [hneg,Int.ediv_neg_of_neg_of_pos hneg (show (0:Int)<G by omega)]
     ·have:=Int.ediv_nonneg (show 0<=n by omega) (show (0:Int)<=G by omega)
      simp [hneg];omega
    obtain ⟨v,hv⟩: ∃v,v=d.toNat/G:=⟨_,rfl⟩
    have hdt:d.tdiv (G:Int)=(v:Int):=by rw [<-hdd,etd,hv]
    rw [<-hv] at hq2 p2
    refine qav (fun h1=> ?_) (fun h1=> ?_)
    ·conv=>whnf
     rw [hdt]
     refine qcZ (by omega) (by omega) ?_
     conv=>whnf
     refine qaa rfl rfl (quB v (by omega)) ?_
     conv=>whnf
     have h2:v≠1:=by
      intro h;apply h1
      have:=Nat.div_mul_cancel hdg0
      rw [<-hv,h] at this
      omega
     have e3:nb v=qeg (mkRat n d.toNat):=by
      rw [qjj,p2,if_neg h2]
     refine ⟨?_,trivial⟩
     conv=>whnf
     exact ⟨by rw [qaJ,e2];exact rfl,e1,e3,trivial⟩
    ·conv=>whnf
     have h2:v=1:=by
      rw [hv]
      have:d.toNat=G:=by rw [h1] at hdd;omega
      rw [this];exact Nat.div_self (by omega)
     have e3:emp=qeg (mkRat n d.toNat):=by
      rw [qjj,p2,if_pos h2]
     refine ⟨?_,trivial⟩
     conv=>whnf
     exact ⟨by rw [qaJ,e2];exact rfl,e1,e3,trivial⟩
def Sz(r:RD):Prop:=r.num.size<100000000000/\r.den.size<100000000000
theorem qnL{r:RD}(h:smB r=true):r.num.size<=3/\r.den.size<=3:=by rw [qnt] at h;exact of_decide_eq_true h
theorem qe0{r:RD}(h:smB r=true):smN r=sg r.neg (bv r.num):=by unfold smN;rw [h];rfl
theorem qdJ{r:RD}(h:smB r=true):smD r=(dv r.den:Int):=by unfold smD;rw [h];rfl
theorem qiC{r:RD}(h:smB r=true): -16777216<smN r/\smN r<16777216:=by
 rw [qe0 h]
 have:=bv3 (qnL h).1
 unfold sg;split<;>omega
theorem qi6{r:RD}(h:smB r=true):0<smD r/\smD r<16777216:=by
 rw [qdJ h]
 have:=bv3 (qnL h).2
 unfold dv;split<;>omega
theorem quI(r s:RD)(f g:FuncId)(q:Rat)(hr:Sz r)(hs:Sz s)
  (h1:smB r=true->smB s=true->Fun Tryz.prog f [i64 (smN r),i64 (smD r),i64 (smN s),i64 (smD s)] [qas q]) (h2:Fun Tryz.prog g [ofD r,ofD s] [qas q]):
  Fun Tryz.prog 61 [rdD r,rdD s,.f f [],.f g []] [qas q] :=by
 refine qac (fun t=>t==8) mixed tOk Tryz.func61 rfl rfl ?_
 conv=>whnf
 refine qaa rfl rfl (qfj r) ?_
 conv=>whnf
 refine qaa rfl rfl (qfj s) ?_
 conv=>whnf
 refine qal (fun h3=> ?_) (fun h3=> ?_)
 ·conv=>whnf
  refine qal (fun h4=> ?_) (fun h4=> ?_)
  ·conv=>whnf
   refine qaa rfl rfl (h1 h3 h4) ?_
   conv=>whnf
   refine ⟨?_,trivial⟩
   conv=>whnf
   exact ⟨rfl,rfl,rfl,trivial⟩
  ·conv=>whnf
   refine qab (qgd r (by have:=hr.2;omega)) ?_
   conv=>whnf
   refine qab (qgd s (by have:=hs.2;omega)) ?_
   conv=>whnf
   refine qab h2 ?_
   conv=>whnf
   refine qad (by kernel_rfl) ?_
   conv=>whnf
   refine ⟨?_,trivial⟩
   conv=>whnf
   exact ⟨rfl,rfl,rfl,trivial⟩
 ·conv=>whnf
  refine qab (qgd r (by have:=hr.2;omega)) ?_
  conv=>whnf
  refine qab (qgd s (by have:=hs.2;omega)) ?_
  conv=>whnf
  refine qab h2 ?_
  conv=>whnf
  refine qad (by kernel_rfl) ?_
  conv=>whnf
  refine ⟨?_,trivial⟩
  conv=>whnf
  exact ⟨rfl,rfl,rfl,trivial⟩
theorem qv2(r s:RD)(f g:FuncId)(q:Int)(hr:Sz r)(hs:Sz s)
  (h1:smB r=true->smB s=true->Fun Tryz.prog f [i64 (smN r),i64 (smD r),i64 (smN s),i64 (smD s)] [i64 q]) (h2:Fun Tryz.prog g [ofD r,ofD s] [i64 q]):
  Fun Tryz.prog 70 [rdD r,rdD s,.f f [],.f g []] [i64 q] :=by
 refine qac (fun t=>t==8) mixed tOk Tryz.func70 rfl rfl ?_
 conv=>whnf
 refine qaa rfl rfl (qfj r) ?_
 conv=>whnf
 refine qaa rfl rfl (qfj s) ?_
 conv=>whnf
 refine qal (fun h3=> ?_) (fun h3=> ?_)
 ·conv=>whnf
  refine qal (fun h4=> ?_) (fun h4=> ?_)
  ·conv=>whnf
   refine qaa rfl rfl (h1 h3 h4) ?_
   conv=>whnf
   refine ⟨?_,trivial⟩
   conv=>whnf
  ·conv=>whnf
   refine qab (qgd r (by have:=hr.2;omega)) ?_
   conv=>whnf
   refine qab (qgd s (by have:=hs.2;omega)) ?_
   conv=>whnf
   refine qab h2 ?_
   conv=>whnf
   refine qad (by kernel_rfl) ?_
   conv=>whnf
   refine ⟨?_,trivial⟩
   conv=>whnf
 ·conv=>whnf
  refine qab (qgd r (by have:=hr.2;omega)) ?_
  conv=>whnf
  refine qab (qgd s (by have:=hs.2;omega)) ?_
  conv=>whnf
  refine qab h2 ?_
  conv=>whnf
  refine qad (by kernel_rfl) ?_
  conv=>whnf
  refine ⟨?_,trivial⟩
  conv=>whnf
theorem qiT{a b:Int}(ha: -16777216<a/\a<16777216)(hb: -16777216<b/\b<16777216): -281474976710656<a*b/\a*b<281474976710656:=by
 have h:(a*b).natAbs<=16777215*16777215:=by
  rw [Int.natAbs_mul]
  exact Nat.mul_le_mul (by omega) (by omega)
 omega
theorem qi2{a b:Int}(ha:0<a/\a<16777216)(hb:0<b/\b<16777216):0<a*b/\a*b<281474976710656:=
 ⟨Int.mul_pos ha.1 hb.1,(qiT (by omega) (by omega)).2⟩
theorem qyR(n d m e:Int)(hn: -16777216<n/\n<16777216)(hd:0<d/\d<16777216)(hm: -16777216<m/\m<16777216)(he:0<e/\e<16777216):
  Fun Tryz.prog 112 [i64 n,i64 d,i64 m,i64 e] [qas (mkRat (n*e+m*d) (d*e).toNat)] :=by
 have b1:=qiT hn (show-16777216<e/\e<16777216 by omega)
 have b2:=qiT hm (show-16777216<d/\d<16777216 by omega)
 have b3:=qi2 hd he
 refine qac (fun t=>t==8) mixed tOk Tryz.func112 rfl rfl ?_
 conv=>whnf
 refine qak (by omega) ?_
 conv=>whnf
 refine qak (by omega) ?_
 conv=>whnf
 refine qak (by omega) ?_
 conv=>whnf
 refine qak (by omega) ?_
 conv=>whnf
 refine qaa rfl rfl (qrv (n*e+m*d) (d*e) (by omega) (by omega)) ?_
 conv=>whnf
 refine ⟨?_,trivial⟩
 conv=>whnf
 exact ⟨rfl,rfl,rfl,trivial⟩
theorem qAc(n d m e:Int)(hn: -16777216<n/\n<16777216)(hd:0<d/\d<16777216)(hm: -16777216<m/\m<16777216)(he:0<e/\e<16777216):
  Fun Tryz.prog 62 [i64 n,i64 d,i64 m,i64 e] [qas (mkRat (n*m) (d*e).toNat)] :=by
 have b1:=qiT hn hm
 have b3:=qi2 hd he
 refine qac (fun t=>t==8) mixed tOk Tryz.func62 rfl rfl ?_
 conv=>whnf
 refine qak (by omega) ?_
 conv=>whnf
 refine qak (by omega) ?_
 conv=>whnf
 refine qaa rfl rfl (qrv (n*m) (d*e) (by omega) (by omega)) ?_
 conv=>whnf
 refine ⟨?_,trivial⟩
 conv=>whnf
 exact ⟨rfl,rfl,rfl,trivial⟩
theorem qcx(n:Bool)(s:ByteArray):(sg n (bv s)).natAbs<256^s.size:=by rw [qdV];exact qaV _
theorem qdK{x y:Int}{a b:Nat}(hx:x.natAbs<256^a)(hy:y.natAbs<256^b):(x*y).natAbs<256^(a+b):=by
 rw [Int.natAbs_mul,Nat.pow_add]
 exact Nat.mul_lt_mul'' hx hy
theorem qxE{x y:Int}{a b:Nat}(hx:x.natAbs<256^a)(hy:y.natAbs<256^b):(x+y).natAbs<256^(a+b+1):=by
 have h1:=Nat.pow_le_pow_right (n:=256) (by omega) (show a<=a+b by omega)
 have h2:=Nat.pow_le_pow_right (n:=256) (by omega) (show b<=a+b by omega)
 have h3:=Int.natAbs_add_le x y
 rw [Nat.pow_succ];omega
theorem qiJ{x:Int}{a:Nat}(hx:x.natAbs<256^a):(nb x.natAbs).size<=a:=qhl hx
theorem qfr(Z D:Int)(k l:Nat)(hD:0<D)(hZk:Z.natAbs<256^k)(hDk:D.natAbs<256^l)(hk:k<500000000000)(hl:l<500000000000):
  Fun Tryz.prog 66 [frD (ng Z) (nb Z.natAbs) (ng D) (nb D.natAbs)] [qas (mkRat Z D.toNat)] :=by
 have h:=qjr (ng Z) (nb Z.natAbs) (ng D) (nb D.natAbs) (by rw [qbs];simp;omega) (by rw [qbo];omega) (by have:=qhl hZk;omega) (by have:=qhl hDk;omega)
 rw [qms,qbo] at h
 rwa [show mkRat Z D.natAbs=mkRat Z D.toNat by rw [show D.natAbs=D.toNat by omega]] at h
theorem qAE(r s:RD)(hr:Sz r)(hs:Sz s):Fun Tryz.prog 113 [ofD r,ofD s] [qas (mkRat (sg r.neg (bv r.num)*dv s.den+sg s.neg (bv s.num)*dv r.den) (dv r.den*dv s.den))] :=by
 have z1:=qdd r.den
 have z2:=qdd s.den
 have e1:sg false (bv (dn r.den))=(dv r.den:Int):=by rw [qgI];rfl
 have e2:sg false (bv (dn s.den))=(dv s.den:Int):=by rw [qgI];rfl
 have k1:=qcx r.neg r.num
 have k2:=qcx s.neg s.num
 have k3:=qcx false (dn r.den)
 have k4:=qcx false (dn s.den)
 have m1:=qdK k1 k4
 have m2:=qdK k2 k3
 have m3:=qdK k3 k4
 have m4:=qxE m1 m2
 have p1:=qcr r.den
 have p2:=qcr s.den
 obtain ⟨hr1,hr2⟩:=hr
 obtain ⟨hs1,hs2⟩:=hs
 refine qac (fun t=>t==4) mixed tOk Tryz.func113 rfl rfl ?_
 conv=>whnf
 refine qab (qjA _ _ _ _ (by omega) (by omega)) ?_
 conv=>whnf
 refine qab (qjA _ _ _ _ (by omega) (by omega)) ?_
 conv=>whnf
 refine qab (qxC _ _ _ _ (by have:=qiJ m1;omega) (by have:=qiJ m2;omega)) ?_
 conv=>whnf
 refine qab (qjA _ _ _ _ (by omega) (by omega)) ?_
 conv=>whnf
 rw [qms,qms]
 refine qab (qfr _ _ _ _ (by rw [e1,e2];exact_mod_cast Nat.mul_pos p1 p2) m4 m3 (by omega) (by omega)) ?_
 conv=>whnf
 refine qad (by kernel_rfl) ?_
 conv=>whnf
 rw [e1,e2,show ((dv r.den:Int)*(dv s.den:Int)).toNat=dv r.den*dv s.den by rw [<-Int.natCast_mul];rfl]
 refine ⟨?_,trivial⟩
 conv=>whnf
 exact ⟨rfl,rfl,rfl,trivial⟩
theorem qAm(r s:RD)(hr:Sz r)(hs:Sz s):Fun Tryz.prog 64 [ofD r,ofD s] [qas (mkRat (sg r.neg (bv r.num)*sg s.neg (bv s.num)) (dv r.den*dv s.den))] :=by
 have z1:=qdd r.den
 have z2:=qdd s.den
 have e1:sg false (bv (dn r.den))=(dv r.den:Int):=by rw [qgI];rfl
 have e2:sg false (bv (dn s.den))=(dv s.den:Int):=by rw [qgI];rfl
 have k1:=qcx r.neg r.num
 have k2:=qcx s.neg s.num
 have k3:=qcx false (dn r.den)
 have k4:=qcx false (dn s.den)
 have m1:=qdK k1 k2
 have m3:=qdK k3 k4
 have p1:=qcr r.den
 have p2:=qcr s.den
 obtain ⟨hr1,hr2⟩:=hr
 obtain ⟨hs1,hs2⟩:=hs
 refine qac (fun t=>t==4) mixed tOk Tryz.func64 rfl rfl ?_
 conv=>whnf
 refine qab (qjA _ _ _ _ (by omega) (by omega)) ?_
 conv=>whnf
 refine qab (qjA _ _ _ _ (by omega) (by omega)) ?_
 conv=>whnf
 refine qab (qfr _ _ _ _ (by rw [e1,e2];exact_mod_cast Nat.mul_pos p1 p2) m1 m3 (by omega) (by omega)) ?_
 conv=>whnf
 refine qad (by kernel_rfl) ?_
 conv=>whnf
 rw [e1,e2,show ((dv r.den:Int)*(dv s.den:Int)).toNat=dv r.den*dv s.den by rw [<-Int.natCast_mul];rfl]
 refine ⟨?_,trivial⟩
 conv=>whnf
 exact ⟨rfl,rfl,rfl,trivial⟩
theorem qzj(r s:RD)(hr:Sz r)(hs:Sz s):Fun Tryz.prog 72 [ofD r,ofD s] [i64 (qgK (sg r.neg (bv r.num)*dv s.den) (sg s.neg (bv s.num)*dv r.den))] :=by
 have z1:=qdd r.den
 have z2:=qdd s.den
 have e1:sg false (bv (dn r.den))=(dv r.den:Int):=by rw [qgI];rfl
 have e2:sg false (bv (dn s.den))=(dv s.den:Int):=by rw [qgI];rfl
 have k1:=qcx r.neg r.num
 have k2:=qcx s.neg s.num
 have k3:=qcx false (dn r.den)
 have k4:=qcx false (dn s.den)
 have m1:=qiJ (qdK k1 k4)
 have m2:=qiJ (qdK k2 k3)
 obtain ⟨hr1,hr2⟩:=hr
 obtain ⟨hs1,hs2⟩:=hs
 refine qac (fun t=>t==4) mixed tOk Tryz.func72 rfl rfl ?_
 conv=>whnf
 refine qab (qjA _ _ _ _ (by omega) (by omega)) ?_
 conv=>whnf
 refine qab (qjA _ _ _ _ (by omega) (by omega)) ?_
 conv=>whnf
 refine qab (qeC _ _ _ _ (by omega) (by omega)) ?_
 conv=>whnf
 refine qad (by kernel_rfl) ?_
 conv=>whnf
 refine ⟨?_,trivial⟩
 conv=>whnf
 rw [qms,qms,e1,e2]
theorem qza(n d m e:Int)(hn: -16777216<n/\n<16777216)(hd:0<d/\d<16777216)(hm: -16777216<m/\m<16777216)(he:0<e/\e<16777216):
  Fun Tryz.prog 71 [i64 n,i64 d,i64 m,i64 e] [i64 (qgK (n*e) (m*d))] :=by
 have b1:=qiT hn (show-16777216<e/\e<16777216 by omega)
 have b2:=qiT hm (show-16777216<d/\d<16777216 by omega)
 refine qac (fun t=>false) mixed tOk Tryz.func71 rfl rfl ?_
 conv=>whnf
 refine qak (by omega) ?_
 conv=>whnf
 refine qak (by omega) ?_
 conv=>whnf
 refine qaf (fun h=> ?_) (fun h=> ?_)
 ·conv=>whnf
  refine ⟨?_,trivial⟩
  conv=>whnf
  unfold qgK;rw [if_pos h]
 ·conv=>whnf
  refine qaf (fun h2=> ?_) (fun h2=> ?_)
  ·conv=>whnf
   refine ⟨?_,trivial⟩
   conv=>whnf
   unfold qgK;rw [if_neg h,if_pos h2]
  ·conv=>whnf
   refine ⟨?_,trivial⟩
   conv=>whnf
   unfold qgK;rw [if_neg h,if_neg h2]
theorem qcv(r:RD):r.val=mkRat (sg r.neg (bv r.num)) (dv r.den):=rfl
theorem qhG(t:ByteArray):dv t≠0:=Nat.ne_of_gt (qcr t)
@[irreducible] def qdr(p q:Rat):Int:=qsH p q
@[irreducible] def qfY(p:Rat):Int:=qpG p
theorem qd6(p q:Rat):qdr p q=qsH p q:=by unfold qdr;rfl
theorem qde(p:Rat):qfY p=qpG p:=by unfold qfY;rfl
theorem toNat_mul(a b:Nat):((a:Int)*(b:Int)).toNat=a*b:=by rw [<-Int.natCast_mul];rfl
theorem qxc(r s:RD)(hr:Sz r)(hs:Sz s):Fun Tryz.prog 50 [rdD r,rdD s] [qas (r.val+s.val)] :=by
 have e:r.val+s.val=mkRat (sg r.neg (bv r.num)*dv s.den+sg s.neg (bv s.num)*dv r.den) (dv r.den*dv s.den):=by
  rw [qcv,qcv,Rat.mkRat_add_mkRat _ _ (qhG _) (qhG _)]
 have hb:=quI r s 112 113 (r.val+s.val) hr hs (fun h1 h2=>by
  have:=qyR (smN r) (smD r) (smN s) (smD s) (qiC h1) (qi6 h1) (qiC h2) (qi6 h2)
  rw [show (smD r*smD s).toNat=dv r.den*dv s.den by rw [qdJ h1,qdJ h2,toNat_mul]] at this
  rwa [e, <-qe0 h1, <-qe0 h2, <-qdJ h1, <-qdJ h2]) (by rw [e];exact qAE r s hr hs)
 refine qac (fun t=>t==4) mixed tOk Tryz.func50 rfl rfl ?_
 conv=>whnf
 refine qaa rfl rfl hb ?_
 conv=>whnf
 refine ⟨?_,trivial⟩
 conv=>whnf
 exact ⟨rfl,rfl,rfl,trivial⟩
theorem qBa(r s:RD)(hr:Sz r)(hs:Sz s):Fun Tryz.prog 14 [rdD r,rdD s] [qas (r.val*s.val)] :=by
 have e:r.val*s.val=mkRat (sg r.neg (bv r.num)*sg s.neg (bv s.num)) (dv r.den*dv s.den):=by
  rw [qcv,qcv,Rat.mkRat_mul_mkRat]
 have hb:=quI r s 62 64 (r.val*s.val) hr hs (fun h1 h2=>by
  have:=qAc (smN r) (smD r) (smN s) (smD s) (qiC h1) (qi6 h1) (qiC h2) (qi6 h2)
  rw [show (smD r*smD s).toNat=dv r.den*dv s.den by rw [qdJ h1,qdJ h2,toNat_mul]] at this
  rwa [e, <-qe0 h1, <-qe0 h2]) (by rw [e];exact qAm r s hr hs)
 refine qac (fun t=>t==4) mixed tOk Tryz.func14 rfl rfl ?_
 conv=>whnf
 refine qaa rfl rfl hb ?_
 conv=>whnf
 refine ⟨?_,trivial⟩
 conv=>whnf
 exact ⟨rfl,rfl,rfl,trivial⟩
theorem qqT(r s:RD):qdr r.val s.val=qgK (sg r.neg (bv r.num)*dv s.den) (sg s.neg (bv s.num)*dv r.den):=by
 rw [qd6]
 unfold qsH qgK
 rw [qcv,qcv]
 simp only [qjW (qhG _) (qhG _)]
theorem qfu(r s:RD)(hr:Sz r)(hs:Sz s):Fun Tryz.prog 17 [rdD r,rdD s] [i64 (qdr r.val s.val)] :=by
 have e:=qqT r s
 have hb:=qv2 r s 71 72 (qdr r.val s.val) hr hs (fun h1 h2=>by
  have:=qza (smN r) (smD r) (smN s) (smD s) (qiC h1) (qi6 h1) (qiC h2) (qi6 h2)
  rwa [e, <-qe0 h1, <-qe0 h2, <-qdJ h1, <-qdJ h2]) (by rw [e];exact qzj r s hr hs)
 refine qac (fun t=>false) mixed tOk Tryz.func17 rfl rfl ?_
 conv=>whnf
 refine qaa rfl rfl hb ?_
 conv=>whnf
 refine ⟨?_,trivial⟩
 conv=>whnf
theorem qzl(r s:RD)(hr:Sz r)(hs:Sz s):Fun Tryz.prog 22 [rdD r,rdD s] [qas (r.val-s.val)] :=by
 have e:r.val+(⟨!s.neg,s.num,s.den⟩:RD).val=r.val-s.val:=by
  rw [Rat.sub_eq_add_neg]
  congr 1
  rw [qcv,qcv,Rat.neg_mkRat]
  congr 1
  unfold sg;cases s.neg<;>simp
 refine qac (fun t=>t==3||t==4) mixed tOk Tryz.func22 rfl rfl ?_
 conv=>whnf
 refine qa5 rfl rfl (qxc r ⟨!s.neg,s.num,s.den⟩ hr hs) (by rw [qdO];rfl) ?_
 conv=>whnf
 rw [e]
 refine ⟨?_,trivial⟩
 conv=>whnf
 exact ⟨rfl,rfl,rfl,trivial⟩
theorem qD5(r:RD)(hr:Sz r):Fun Tryz.prog 387 [rdD r] [qas (-r.val)] :=by
 have e:mkRat (sg (!r.neg) (bv r.num)) (bv (dn r.den))= -r.val:=by
  rw [qcv,Rat.neg_mkRat,qgI]
  congr 1
  unfold sg;cases r.neg<;>simp
 obtain ⟨hr1,hr2⟩:=hr
 have z1:=qdd r.den
 refine qac (fun t=>t==1||t==2) mixed tOk Tryz.func387 rfl rfl ?_
 conv=>whnf
 refine qa5 rfl rfl (qgd ⟨!r.neg,r.num,r.den⟩ (by show r.den.size<_;omega)) (by rw [qdO];rfl) ?_
 conv=>whnf
 refine qaa rfl rfl (qjr (!r.neg) r.num false (dn r.den) rfl (by rw [qgI];exact qhG _) (by omega) (by omega)) ?_
 conv=>whnf
 rw [e]
 refine ⟨?_,trivial⟩
 conv=>whnf
 exact ⟨rfl,rfl,rfl,trivial⟩
theorem qtf(r:RD)(hr:Sz r):Fun Tryz.prog 66 [ofD r] [qas r.val] :=by
 have z1:=qdd r.den
 obtain ⟨hr1,hr2⟩:=hr
 have:=qjr r.neg r.num false (dn r.den) rfl (by rw [qgI];exact qhG _) (by omega) (by omega)
 rwa [qgI] at this
theorem quv(r:RD)(hr:Sz r):Fun Tryz.prog 16 [rdD r] [i64 (qfY r.val)] :=by
 have e:qgK (sg r.neg (bv r.num)) (sg false (bv ⟨#[]⟩))=qfY r.val:=by
  rw [qde]
  unfold qgK qpG
  rw [qcv]
  simp only [qpX (qhG _),qpp (qhG _)]
  rfl
 obtain ⟨hr1,hr2⟩:=hr
 refine qac (fun t=>false) mixed tOk Tryz.func16 rfl rfl ?_
 conv=>whnf
 refine qaa rfl rfl (qgd r (by omega)) ?_
 conv=>whnf
 refine qaa rfl rfl (qeC _ _ _ _ (by omega) (by decide)) ?_
 conv=>whnf
 refine ⟨?_,trivial⟩
 conv=>whnf
 exact e
theorem qqc(r s:RD):qdD [.v (.bool r.neg),.v (.string r.num),.v (.string r.den)] [.v (.bool s.neg),.v (.string s.num),.v (.string s.den)] =decide (r=s):=by
 obtain ⟨a,b,c⟩:=r
 obtain ⟨a',b',c'⟩:=s
 simp only [qdD,eqD,qbM,Bool.and_true,RD.mk.injEq]
 by_cases h1:a=a'<;>by_cases h2:b=b'<;>by_cases h3:c=c'<;>simp [eqV,h1,h2,h3,qbM]
theorem qwV(r:RD)(q:Rat):qdD [.v (.bool r.neg),.v (.string r.num),.v (.string r.den)] [.v (.bool (qd4 q)),.v (.string (qeo q)),.v (.string (qeg q))] =decide (r=canon q):=by
 unfold qd4 qeo qeg;exact qqc r (canon q)
@[irreducible] def okN(r:RD):Int:=if canon r.val=r then 0 else 1
theorem qlr(r:RD)(hr:Sz r):Fun Tryz.prog 88 [rdD r] [i64 (okN r)] :=by
 refine qac (fun t=>false) mixed tOk Tryz.func88 rfl rfl ?_
 conv=>whnf
 refine qab (qgd r (by have:=hr.2;omega)) ?_
 conv=>whnf
 refine qab (qtf r hr) ?_
 conv=>whnf
 refine qad (by kernel_rfl) ?_
 conv=>whnf
 have e:qdD (List.take qEq.cells (List.drop 0 (rdD r).cells)) [D.v (.bool (qd4 r.val)),.v (.string (qeo r.val)),.v (.string (qeg r.val))] =decide (r=canon r.val):=qwV r _
 rw [e]
 refine qbx (fun h=> ?_) (fun h=> ?_)
 ·have h1: ¬canon r.val=r:=fun h'=>by rw [h'] at h;simp at h
  conv=>whnf
  refine ⟨?_,trivial⟩
  conv=>whnf
  unfold okN;rw [if_neg h1]
 ·have h1:canon r.val=r:=by
   have:r=canon r.val:=by simpa using h
   exact this.symm
  conv=>whnf
  refine ⟨?_,trivial⟩
  conv=>whnf
  unfold okN;rw [if_pos h1]
theorem qCG(n:Int)(h: -9223372036854775808<=n/\n<=9223372036854775807):Fun Tryz.prog 59 [i64 n] [qas (n:Rat)] :=by
 have hz:n.natAbs<256^8:=by have:(256:Nat)^8=18446744073709551616:=rfl;omega
 have hn:=qfr n 1 8 1 (by omega) hz (by decide) (by omega) (by omega)
 have e:mkRat n (Int.toNat 1)=(n:Rat):=by rw [Rat.mkRat_eq_div];show (n:Rat)/((1:Nat):Rat)=n;rw [Rat.natCast_ofNat];grind
 rw [e] at hn
 refine qac (fun t=>t==2) mixed tOk Tryz.func59 rfl rfl ?_
 conv=>whnf
 refine qaa rfl rfl (qva n h) ?_
 conv=>whnf
 refine qaa rfl rfl (qva 1 (by omega)) ?_
 conv=>whnf
 refine qaa rfl rfl hn ?_
 conv=>whnf
 refine ⟨?_,trivial⟩
 conv=>whnf
 exact ⟨rfl,rfl,rfl,trivial⟩
@[irreducible] def eN(b:Int):Int:=if b=0 then 10 else 0
@[irreducible] def eQ(q:Rat):Int:=if q=0 then 10 else 0
theorem qf4:canon 0=⟨false,emp,emp⟩:=by decide
theorem qcT:qd4 0=false:=by unfold qd4;rw [qf4]
theorem qcW:qeo 0=emp:=by unfold qeo;rw [qf4]
theorem qcS:qeg 0=emp:=by unfold qeg;rw [qf4]
theorem qA7(a b:Int)(k l:Nat)(ha:a.natAbs<256^k)(hb:b.natAbs<256^l)(hk:k<500000000000)(hl:l<500000000000):
  Fun Tryz.prog 173 [zD a,zD b] [qas (Rat.divInt a b),i64 (eN b)] :=by
 have sa:=qiJ ha
 have sb:=qiJ hb
 have hc0:qgK (sg (ng b) (bv (nb b.natAbs))) (sg false (bv ⟨#[]⟩))=qgK b 0:=by rw [qms];rfl
 refine qac (fun t=>t==2||t==3||t==4) mixed tOk Tryz.func173 rfl rfl ?_
 conv=>whnf
 refine qaa rfl rfl (qeC _ _ _ _ (by omega) (by decide)) ?_
 conv=>whnf
 rw [hc0]
 refine qa4 (fun h=> ?_) (fun h=> ?_)
 ·conv=>whnf
  have h0:b=0:=by unfold qgK at h;split at h<;>(try split at h)<;>omega
  subst h0
  refine ⟨?_, ?_,trivial⟩
  ·rw [Rat.divInt_zero]
   conv=>whnf
   rw [qcT,qcW,qcS]
   exact ⟨rfl,rfl,rfl,trivial⟩
  ·conv=>whnf
   unfold eN;rfl
 ·conv=>whnf
  have h0:b≠0:=by rintro rfl;exact h rfl
  have he:eN b=0:=by unfold eN;rw [if_neg h0]
  refine qa4 (fun h2=> ?_) (fun h2=> ?_)
  ·conv=>whnf
   have hneg:b<0:=by unfold qgK at h2;split at h2<;>(try split at h2)<;>omega
   refine qab (qzm _ _ (by omega)) ?_
   conv=>whnf
   refine qab (qzm _ _ (by omega)) ?_
   conv=>whnf
   refine qad (by kernel_rfl) ?_
   conv=>whnf
   rw [qms,qms]
   refine qaa rfl rfl (qfr (-a) (-b) k l (by omega) (by omega) (by omega) hk hl) ?_
   conv=>whnf
   have e:mkRat (-a) (-b).toNat=Rat.divInt a b:=by
    rw [<-Rat.neg_divInt_neg, <-Rat.divInt_ofNat]
    congr 1;omega
   rw [e]
   refine ⟨?_, ?_,trivial⟩
   ·conv=>whnf
    exact ⟨rfl,rfl,rfl,trivial⟩
   ·conv=>whnf
    exact he.symm
  ·conv=>whnf
   have hpos:0<b:=by
    unfold qgK at h h2;split at h2
    ·omega
    ·split at h2<;>omega
   refine qaa rfl rfl (qfr a b k l hpos ha hb hk hl) ?_
   conv=>whnf
   have e:mkRat a b.toNat=Rat.divInt a b:=by
    rw [<-Rat.divInt_ofNat]
    congr 1;omega
   rw [e]
   refine ⟨?_, ?_,trivial⟩
   ·conv=>whnf
    exact ⟨rfl,rfl,rfl,trivial⟩
   ·conv=>whnf
    exact he.symm
theorem qFn{n:Int}(h: -9223372036854775808<=n/\n<=9223372036854775807):n.natAbs<256^8:=by have:(256:Nat)^8=18446744073709551616:=rfl;omega
theorem qxd(a b:Int)(ha: -9223372036854775808<=a/\a<=9223372036854775807)(hb: -9223372036854775808<=b/\b<=9223372036854775807):
  Fun Tryz.prog 360 [i64 a,i64 b] [qas (Rat.divInt a b),i64 (eN b)] :=by
 refine qac (fun t=>t==4) mixed tOk Tryz.func360 rfl rfl ?_
 conv=>whnf
 refine qaa rfl rfl (qva a ha) ?_
 conv=>whnf
 refine qaa rfl rfl (qva b hb) ?_
 conv=>whnf
 refine qaa rfl rfl (qA7 a b 8 8 (qFn ha) (qFn hb) (by omega) (by omega)) ?_
 conv=>whnf
 refine ⟨?_, ?_,trivial⟩
 ·conv=>whnf
  exact ⟨rfl,rfl,rfl,trivial⟩
 ·conv=>whnf
theorem qyM(r s:RD)(hr:Sz r)(hs:Sz s):Fun Tryz.prog 117 [rdD r,rdD s] [qas (r.val/s.val),i64 (eQ s.val)] :=by
 have z1:=qdd r.den
 have z2:=qdd s.den
 have e1:sg false (bv (dn r.den))=(dv r.den:Int):=by rw [qgI];rfl
 have e2:sg false (bv (dn s.den))=(dv s.den:Int):=by rw [qgI];rfl
 have k1:=qcx r.neg r.num
 have k2:=qcx s.neg s.num
 have k3:=qcx false (dn r.den)
 have k4:=qcx false (dn s.den)
 have m1:=qdK k1 k4
 have m3:=qdK k3 k2
 have p1:=qcr r.den
 have p2:=qcr s.den
 obtain ⟨hr1,hr2⟩:=hr
 obtain ⟨hs1,hs2⟩:=hs
 have ev:Rat.divInt (sg r.neg (bv r.num)*sg false (bv (dn s.den))) (sg false (bv (dn r.den))*sg s.neg (bv s.num))=r.val/s.val:=by
  rw [e1,e2,Rat.div_def,qcv,qcv, <-Rat.divInt_ofNat, <-Rat.divInt_ofNat,Rat.inv_divInt,Rat.divInt_mul_divInt]
 have ee:eN (sg false (bv (dn r.den))*sg s.neg (bv s.num))=eQ s.val:=by
  unfold eN eQ
  have:(sg false (bv (dn r.den))*sg s.neg (bv s.num)=0)=(s.val=0):=by
   rw [e1,qcv,Rat.mkRat_eq_zero (qhG _),Int.mul_eq_zero]
   apply propext
   exact ⟨fun h=>h.resolve_left (by omega),fun h=> .inr h⟩
  simp only [this]
 refine qac (fun t=>t==4||t==6||t==7) mixed tOk Tryz.func117 rfl rfl ?_
 conv=>whnf
 refine qab (qgd r (by omega)) ?_
 conv=>whnf
 refine qab (qgd s (by omega)) ?_
 conv=>whnf
 refine qad (by kernel_rfl) ?_
 conv=>whnf
 refine qab (qjA _ _ _ _ (by omega) (by omega)) ?_
 conv=>whnf
 refine qab (qjA _ _ _ _ (by omega) (by omega)) ?_
 conv=>whnf
 refine qab (qA7 _ _ _ _ m1 m3 (by omega) (by omega)) ?_
 conv=>whnf
 refine qad (by kernel_rfl) ?_
 conv=>whnf
 rw [ev,ee]
 refine ⟨?_, ?_,trivial⟩
 ·conv=>whnf
  exact ⟨rfl,rfl,rfl,trivial⟩
 ·conv=>whnf
theorem qxR{q:Rat}{n:Nat}(h:Bd n q)(hn:n<90000000000):Sz (canon q):=by
 unfold Sz canon
 have h1:q.num.natAbs<256^(n+1):=by
  have:=h.1
  have e:256^(n+1)=256^n*256:=Nat.pow_succ _ _
  have:0<256^n:=Nat.pow_pos (by omega)
  omega
 have h2:q.den<256^(n+1):=by
  have:=h.2
  have e:256^(n+1)=256^n*256:=Nat.pow_succ _ _
  have:0<256^n:=Nat.pow_pos (by omega)
  omega
 have:=qhl h1
 have:=qhl h2
 refine ⟨by simp only;omega, ?_⟩
 simp only
 split
 ·show (0:Nat)<_;omega
 ·omega
def Q(q:Rat):Prop:= ∃n,n<90000000000/\Bd n q
theorem Q.sz{q:Rat}(h:Q q):Sz (canon q):=by obtain ⟨n,h1,h2⟩:=h;exact qxR h2 h1
theorem qss{p q:Rat}(hp:Q p)(hq:Q q):Fun Tryz.prog 50 [qas p,qas q] [qas (p+q)] :=by
 have:=qxc (canon p) (canon q) hp.sz hq.sz
 rwa [qar,qar, <-qaO, <-qaO] at this
theorem qth{p q:Rat}(hp:Q p)(hq:Q q):Fun Tryz.prog 14 [qas p,qas q] [qas (p*q)] :=by
 have:=qBa (canon p) (canon q) hp.sz hq.sz
 rwa [qar,qar, <-qaO, <-qaO] at this
theorem qsw{p q:Rat}(hp:Q p)(hq:Q q):Fun Tryz.prog 22 [qas p,qas q] [qas (p-q)] :=by
 have:=qzl (canon p) (canon q) hp.sz hq.sz
 rwa [qar,qar, <-qaO, <-qaO] at this
theorem qsf{p q:Rat}(hp:Q p)(hq:Q q):Fun Tryz.prog 17 [qas p,qas q] [i64 (qdr p q)] :=by
 have:=qfu (canon p) (canon q) hp.sz hq.sz
 rwa [qar,qar, <-qaO, <-qaO] at this
theorem qiQ{p:Rat}(hp:Q p):Fun Tryz.prog 16 [qas p] [i64 (qfY p)] :=by
 have:=quv (canon p) hp.sz
 rwa [qar, <-qaO] at this
theorem qvK{p q:Rat}(hp:Q p)(hq:Q q):Fun Tryz.prog 117 [qas p,qas q] [qas (p/q),i64 (eQ q)] :=by
 have:=qyM (canon p) (canon q) hp.sz hq.sz
 rwa [qar,qar, <-qaO, <-qaO] at this
abbrev ptR(r s:RD):D:= .a [.v (.bool r.neg),.v (.string r.num),.v (.string r.den),.v (.bool s.neg),.v (.string s.num),.v (.string s.den)]
abbrev ptD(p q:Rat):D:= .a [.v (.bool (qd4 p)),.v (.string (qeo p)),.v (.string (qeg p)),.v (.bool (qd4 q)),.v (.string (qeo q)),.v (.string (qeg q))]
theorem qm6{x y u v z w:Rat}{f:FuncId}(h1:Fun Tryz.prog f [qas x,qas u] [qas z])(h2:Fun Tryz.prog f [qas y,qas v] [qas w]):
  Fun Tryz.prog 60 [ptD x y,ptD u v,.f f []] [ptD z w] :=by
 refine qac (fun t=>t==6) mixed tOk Tryz.func60 rfl rfl ?_
 conv=>whnf
 refine qab h1 ?_
 conv=>whnf
 refine qab h2 ?_
 conv=>whnf
 refine qad (by kernel_rfl) ?_
 conv=>whnf
 refine ⟨?_,trivial⟩
 conv=>whnf
 exact ⟨rfl,rfl,rfl,rfl,rfl,rfl,trivial⟩
theorem qnn{x y u v:Rat}(hx:Q x)(hy:Q y)(hu:Q u)(hv:Q v):Fun Tryz.prog 34 [ptD x y,ptD u v] [ptD (x+u) (y+v)] :=by
 refine qac (fun t=>t==4) mixed tOk Tryz.func34 rfl rfl ?_
 conv=>whnf
 refine qaa rfl rfl (qm6 (qss hx hu) (qss hy hv)) ?_
 conv=>whnf
 refine ⟨?_,trivial⟩
 conv=>whnf
 exact ⟨rfl,rfl,rfl,rfl,rfl,rfl,trivial⟩
theorem qi4{x y u v:Rat}(hx:Q x)(hy:Q y)(hu:Q u)(hv:Q v):Fun Tryz.prog 13 [ptD x y,ptD u v] [ptD (x-u) (y-v)] :=by
 refine qac (fun t=>t==4) mixed tOk Tryz.func13 rfl rfl ?_
 conv=>whnf
 refine qaa rfl rfl (qm6 (qsw hx hu) (qsw hy hv)) ?_
 conv=>whnf
 refine ⟨?_,trivial⟩
 conv=>whnf
 exact ⟨rfl,rfl,rfl,rfl,rfl,rfl,trivial⟩
theorem qi8{x y u v:Rat}(hx:Q x)(hy:Q y)(hu:Q u)(hv:Q v):Fun Tryz.prog 108 [ptD x y,ptD u v] [i64 (if qdr x u=0 then qdr y v else qdr x u)] :=by
 refine qac (fun t=>false) mixed tOk Tryz.func108 rfl rfl ?_
 conv=>whnf
 refine qaa rfl rfl (qsf hx hu) ?_
 conv=>whnf
 refine qav (fun h=> ?_) (fun h=> ?_)
 ·conv=>whnf
  rw [if_neg h]
  refine ⟨?_,trivial⟩
  conv=>whnf
 ·conv=>whnf
  rw [if_pos h]
  refine qaa rfl rfl (qsf hy hv) ?_
  conv=>whnf
  refine ⟨?_,trivial⟩
  conv=>whnf
end Go.Nv
end
