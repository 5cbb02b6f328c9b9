import Derived.Test.YtlmmifgminkdkaaGreatNxC2
import Derived.Test.YtlmmifgminkdkaaGreatNxP1
import Derived.Test.YtlmmifgminkdkaaGreatNxN5
set_option linter.all false
set_option maxRecDepth 100000
section
namespace Go.Nv
open Go.Proofs Nw
def qFJ(n m:Bool)(s t:ByteArray)(x y:Nat):St:=⟨fr 28 [(4,.ptr 0 0 0),(5,.d (.l (us (ln x)))),(6,.d (.l (us (ln y))))], [.box 96 [.d (.v (.bool false)),.d (.v (.string ⟨#[]⟩))]]⟩
theorem gcd_c(n m:Bool)(s t:ByteArray)(hs:s.size<500000000000)(ht:t.size<500000000000):Fun Tryz.prog 130 [intD n s,intD m t] [zD (Nat.gcd (bv s) (bv t):Nat)] :=by
 have h1:=qcE s (by omega)
 have h2:=qcE t (by omega)
 refine qad (fun t=>t==4) mixed tOk Tryz.func130 rfl rfl ?_
 conv=>whnf
 refine qab (qdv s (by omega)) ?_
 conv=>whnf
 refine qab (qdv t (by omega)) ?_
 conv=>whnf
 refine qac (by kernel_rfl) ?_
 conv=>whnf
 refine qah (fun t=>t==4) (fun p:Nat×Nat=>qFJ n m s t p.1 p.2) (fun p=>Nat.gcd p.1 p.2=Nat.gcd (bv s) (bv t)/\(ln p.1).length<500000000000/\(ln p.2).length<500000000000) (fun p=>p.2) (bv s,bv t) mixed tOk ⟨rfl,by show (ln (bv s)).length<_;omega,by show (ln (bv t)).length<_;omega⟩ ?_ ?_
 conv=>whnf
 ·refine qag ?_ ?_<;>repeat' (first|exact trivial|exact rfl|apply And.intro)
 ·rintro ⟨x,y⟩ ⟨e,hx,hy⟩
  simp only at e hx hy
  have ly:=qan (ln y)
  conv=>whnf
  refine qaf (fun h3=> ?_) (fun h3=> ?_)
  ·conv=>whnf
   have hy0:0<y:=by
    rcases Nat.eq_zero_or_pos y with h|h
    ·subst h;simp [qaR,us] at h3
    ·exact h
   refine qaa rfl rfl (qmH x y hy0 (by omega) (by omega)) ?_
   conv=>whnf
   refine ⟨(y,x%y),⟨?_,by omega, ?_⟩,Nat.mod_lt _ hy0, ?_⟩
   ·rw [<-e];exact (Nat.gcd_comm _ _).trans (by rw [Nat.gcd_comm x y,Nat.gcd_rec y x,Nat.gcd_comm])
   ·have:=qa2 (Nat.le_of_lt (Nat.mod_lt x hy0));show (ln (x%y)).length<_;omega
   ·refine qag ?_ ?_<;>repeat' (first|exact trivial|exact rfl|apply And.intro)
  ·conv=>whnf
   have h3: ¬((us (ln y)).length:Int)>0:=h3
   have hy0:y=0:=qbP.1 (by omega)
   subst hy0
   refine qaa rfl rfl (qcR false x (by show (ln x).length<_;omega)) ?_
   conv=>whnf
   have e2:sg false x=((Nat.gcd (bv s) (bv t):Nat):Int):=by rw [<-e];simp [sg]
   rw [e2]
   refine ⟨?_,trivial⟩
   conv=>whnf
   exact ⟨rfl,rfl,trivial⟩
theorem qhs{a b q r:Int}(h:a=b*q+r)(hr:0<=r/\r<b\/b<r/\r<=0):Int.fdiv a b=q/\Int.fmod a b=r:=by
 have key: ∀{a b q r:Int},a=b*q+r->0<=r->r<b->Int.fdiv a b=q:=fun {a b q r} h h1 h2=>by
  rw [Int.fdiv_eq_ediv_of_nonneg _ (by omega)]
  exact (Int.ediv_eq_iff_of_pos (by omega)).2 ⟨by rw [Int.mul_comm];omega,by rw [Int.mul_comm q b];omega⟩
 have hq:Int.fdiv a b=q:=by
  rcases hr with ⟨h1,h2⟩|⟨h1,h2⟩
  ·exact key h h1 h2
  ·rw [<-Int.neg_fdiv_neg]
   exact key (r:= -r) (by rw [h,Int.neg_add,Int.neg_mul]) (by omega) (by omega)
 refine ⟨hq, ?_⟩
 have:=Int.mul_fdiv_add_fmod a b
 rw [hq] at this
 omega
theorem qkR(n:Bool)(A B:Nat)(hB:B≠0):Int.fdiv (sg n A) (sg n B)=sg false (A/B)/\Int.fmod (sg n A) (sg n B)=sg n (A%B):=by
 have h1:=Nat.div_add_mod A B
 have h2:=Nat.mod_lt A (Nat.pos_of_ne_zero hB)
 have h3:((B*(A/B):Nat):Int)=(B:Int)*((A/B:Nat):Int):=Int.natCast_mul _ _
 generalize A/B=q at*
 generalize A%B=r at*
 refine qhs ?_ ?_
 ·unfold sg
  cases n<;>simp only [Bool.false_eq_true,if_false,if_true,Int.neg_mul] <;>omega
 ·unfold sg
  cases n<;>simp only [Bool.false_eq_true,if_false,if_true] <;>omega
theorem qoQ(n m:Bool)(hnm:n≠m)(A B:Nat)(hB:B≠0)(hr:A%B=0):Int.fdiv (sg n A) (sg m B)=sg true (A/B)/\Int.fmod (sg n A) (sg m B)=0:=by
 have h1:=Nat.div_add_mod A B
 have h3:((B*(A/B):Nat):Int)=(B:Int)*((A/B:Nat):Int):=Int.natCast_mul _ _
 generalize A/B=q at*
 rw [hr] at h1
 refine qhs ?_ ?_
 ·unfold sg
  cases n<;>cases m<;>simp at hnm<;>simp only [Bool.false_eq_true,if_false,if_true,Int.neg_mul,Int.mul_neg] <;>omega
 ·unfold sg
  cases n<;>cases m<;>simp at hnm<;>simp only [Bool.false_eq_true,if_false,if_true] <;>omega
theorem qqN(n m:Bool)(hnm:n≠m)(A B:Nat)(hB:B≠0)(hr:A%B≠0):Int.fdiv (sg n A) (sg m B)=sg true (A/B)-1/\Int.fmod (sg n A) (sg m B)=sg n (A%B)+sg m B:=by
 have h1:=Nat.div_add_mod A B
 have h2:=Nat.mod_lt A (Nat.pos_of_ne_zero hB)
 have h3:((B*(A/B):Nat):Int)=(B:Int)*((A/B:Nat):Int):=Int.natCast_mul _ _
 generalize A/B=q at*
 generalize A%B=r at*
 refine qhs ?_ ?_
 ·unfold sg
  cases n<;>cases m<;>simp at hnm<;>simp only [Bool.false_eq_true,if_false,if_true,Int.neg_mul,Int.mul_neg,Int.mul_sub] <;>omega
 ·unfold sg
  cases n<;>cases m<;>simp at hnm<;>simp only [Bool.false_eq_true,if_false,if_true] <;>omega
theorem qlw(z:Int):sg (ng z) (bv (nb z.natAbs))=z:=by
 rw [qbo,qbp]
 unfold sg
 by_cases h:z<0<;>simp [h] <;>omega
theorem qhp{a k:Nat}(h:a<256^k):(nb a).size<=k:=by rw [qdg];exact qba h
theorem qA5(n m:Bool)(s t:ByteArray)(hs:s.size<500000000000)(ht:t.size<500000000000)(h0:bv t≠0):
  Fun Tryz.prog 131 [intD n s,intD m t] [zD (Int.fdiv (sg n (bv s)) (sg m (bv t))),zD (Int.fmod (sg n (bv s)) (sg m (bv t))),i64 0] :=by
 have h1:=qcE s (by omega)
 have h2:=qcE t (by omega)
 have lt:=qan (ln (bv t))
 have ht0:(ln (bv t)).length≠0:=fun h=>h0 (qbP.1 h)
 refine qad (fun t=>t==4||t==5||t==10||t==11) mixed tOk Tryz.func131 rfl rfl ?_
 conv=>whnf
 refine qaa rfl rfl (qdv t (by omega)) ?_
 conv=>whnf
 refine qa9 (fun h=>by omega) (fun h=> ?_)
 conv=>whnf
 refine qaa rfl rfl (qdv s (by omega)) ?_
 conv=>whnf
 have hq:=qa2 (Nat.div_le_self (bv s) (bv t))
 have hr:=qa2 (Nat.mod_le (bv s) (bv t))
 refine qaa rfl rfl (qmH _ _ (by omega) (by omega) (by omega)) ?_
 conv=>whnf
 refine qab (qcR _ _ (by omega)) ?_
 conv=>whnf
 refine qab (qcR n _ (by omega)) ?_
 conv=>whnf
 refine qac (by kernel_rfl) ?_
 conv=>whnf
 have hA:bv s<256^s.size:=qaV _
 have hq':(sg (n !=m) (bv s/bv t)).natAbs<256^s.size:=by rw [qdU];exact Nat.lt_of_le_of_lt (Nat.div_le_self _ _) hA
 have hr':(sg n (bv s%bv t)).natAbs<256^s.size:=by rw [qdU];exact Nat.lt_of_le_of_lt (Nat.mod_le _ _) hA
 have sq:=qhp hq'
 have sr:=qhp hr'
 generalize hz:sg (n !=m) (bv s/bv t)=z at*
 generalize hy:sg n (bv s%bv t)=y at*
 refine qby (fun h5=> ?_) (fun h5=> ?_)
 ·conv=>whnf
  have hr0:bv s%bv t≠0:=by
   intro h
   have hy0:y=0:=by rw [<-hy,h];cases n<;>rfl
   rw [hy0,show (0:Int).natAbs=0 from rfl,qfU,qbN] at h5
   simp [emp] at h5
  refine qby (fun h6=> ?_) (fun h6=> ?_)
  ·conv=>whnf
   refine qab (qtY 1 (by omega)) ?_
   conv=>whnf
   refine qab (qEo _ _ _ _ (by have e:sg (bz (!(n==m))) (bv s/bv t)=z:=by {rw [qaH];exact hz};rw [e];omega) (by decide)) ?_
   conv=>whnf
   refine qab (qu5 _ _ _ _ (by omega) ht) ?_
   conv=>whnf
   refine qac (by kernel_rfl) ?_
   conv=>whnf
   refine qac (by kernel_rfl) ?_
   conv=>whnf
   obtain ⟨e1,e2⟩:=qqN n m (by simpa using h6) (bv s) (bv t) h0 hr0
   have e3:sg (bz (!(n==m))) (bv s/bv t)=sg true (bv s/bv t):=by rw [qaH,h6]
   rw [e3,e1,e2,qlw,qlw,qlw, <-hy]
   exact ⟨⟨rfl,rfl,trivial⟩,⟨rfl,rfl,trivial⟩,rfl,trivial⟩
  ·conv=>whnf
   refine qac (by kernel_rfl) ?_
   conv=>whnf
   have hnm:n=m:=by simpa using h6
   obtain ⟨e1,e2⟩:=qkR n (bv s) (bv t) h0
   have e3:sg (bz (!(n==m))) (bv s/bv t)=sg false (bv s/bv t):=by rw [qaH,h6]
   subst hnm
   rw [e3,e1,e2, <-hy]
   exact ⟨⟨rfl,rfl,trivial⟩,⟨rfl,rfl,trivial⟩,rfl,trivial⟩
 ·conv=>whnf
  refine qac (by kernel_rfl) ?_
  conv=>whnf
  have hr0:bv s%bv t=0:=by
   have h7:nb y.natAbs=emp:=by
    have:(nb y.natAbs==(⟨#[]⟩:ByteArray))=true:=by simpa using h5
    rw [qbN] at this
    exact of_decide_eq_true this
   have:=qkj.1 h7
   rw [<-hy,qdU] at this
   exact this
  have hy0:y=0:=by rw [<-hy,hr0];cases n<;>rfl
  have e:Int.fdiv (sg n (bv s)) (sg m (bv t))=sg (bz (!(n==m))) (bv s/bv t)/\Int.fmod (sg n (bv s)) (sg m (bv t))=0:=by
   rw [qaH]
   by_cases hnm:n=m
   ·subst hnm
    obtain ⟨e1,e2⟩:=qkR n (bv s) (bv t) h0
    rw [e1,e2,hr0]
    refine ⟨by simp,by cases n<;>rfl⟩
   ·obtain ⟨e1,e2⟩:=qoQ n m hnm (bv s) (bv t) h0 hr0
    refine ⟨?_,e2⟩
    rw [e1,show (n==m)=false by simpa using hnm];rfl
  rw [e.1,e.2,hy0]
  exact ⟨⟨rfl,rfl,trivial⟩,⟨rfl,rfl,trivial⟩,rfl,trivial⟩
abbrev rdD(r:RD):D:= .a [.v (.bool r.neg),.v (.string r.num),.v (.string r.den)]
@[irreducible] def qel(q:Rat):Bool:=(canon q).neg
@[irreducible] def qeC(q:Rat):ByteArray:=(canon q).num
@[irreducible] def qeB(q:Rat):ByteArray:=(canon q).den
abbrev qas(q:Rat):D:= .a [.v (.bool (qel q)),.v (.string (qeC q)),.v (.string (qeB q))]
theorem qaN(q:Rat):qas q=rdD (canon q):=by unfold qas rdD qel qeC qeB;rfl
@[irreducible] def isZ(z k:Int):Bool:=decide (z=k)
theorem qmX(z k:Int):isZ z k=decide (z=k):=by unfold isZ;rfl
theorem qk5(n:Bool)(s:ByteArray):Fun Tryz.prog 136 [.v (.bool n),.v (.string s)] [intD n s] :=by
 refine qad (fun t=>t==4) mixed tOk Tryz.func136 rfl rfl ?_
 conv=>whnf
 exact ⟨⟨rfl,rfl,trivial⟩,trivial⟩
theorem qwi(z k:Int):(qgB z k==0)=isZ z k:=by
 rw [qmX]
 unfold qgB
 by_cases h:z=k
 ·subst h;simp
 ·by_cases h2:z<k
  ·simp [h,h2]
  ·have h3:k<z:=by omega
   simp [h,h2,h3]
theorem qEs(n:Bool)(s:ByteArray)(k:Int)(hs:s.size<1000000000000)(hk: -9223372036854775808<=k/\k<=9223372036854775807):Fun Tryz.prog 129 [intD n s,i64 k] [.v (.bool (isZ (sg n (bv s)) k))] :=by
 refine qad (fun t=>false) mixed tOk Tryz.func129 rfl rfl ?_
 conv=>whnf
 refine qab (qtY k hk) ?_
 conv=>whnf
 have hz:(nb k.natAbs).size<=8:=qhp (by have:(256:Nat)^8=18446744073709551616:=rfl;omega)
 refine qab (qeq _ _ _ _ hs (by omega)) ?_
 conv=>whnf
 refine qac (by kernel_rfl) ?_
 conv=>whnf
 refine ⟨?_,trivial⟩
 conv=>whnf
 rw [qlw,qaH]
 exact qwi _ _
@[irreducible] def dn(t:ByteArray):ByteArray:=if bv t=0 then nb 1 else t
theorem qgF(t:ByteArray):bv (dn t)=dv t:=by
 unfold dn dv
 split
 ·rw [qbp]
 ·rfl
theorem qdc(t:ByteArray):(dn t).size<=t.size+1:=by
 unfold dn
 split
 ·have:=qhp (a:=1) (k:=1) (by decide);omega
 ·omega
abbrev frD(n:Bool)(s:ByteArray)(m:Bool)(t:ByteArray):D:= .a [.v (.bool n),.v (.string s),.v (.bool m),.v (.string t)]
abbrev ofD(r:RD):D:=frD r.neg r.num false (dn r.den)
theorem qgi(r:RD)(hs:r.den.size<1000000000000):Fun Tryz.prog 69 [rdD r] [ofD r] :=by
 refine qad (fun t=>t==2||t==3) mixed tOk Tryz.func69 rfl rfl ?_
 conv=>whnf
 refine qab (qk5 _ _) ?_
 conv=>whnf
 refine qab (qk5 _ _) ?_
 conv=>whnf
 refine qac (by kernel_rfl) ?_
 conv=>whnf
 refine qaa rfl rfl (qEs false r.den 0 hs (by omega)) ?_
 conv=>whnf
 rw [qmX]
 refine qal (fun h=> ?_) (fun h=> ?_)
 ·conv=>whnf
  refine qaa rfl rfl (qtY 1 (by omega)) ?_
  conv=>whnf
  have h0:bv r.den=0:=by have:=of_decide_eq_true h;simpa [sg] using this
  have e:dn r.den=nb (Int.natAbs 1):=by unfold dn;rw [if_pos h0];rfl
  refine ⟨?_,trivial⟩
  conv=>whnf
  exact ⟨rfl,rfl,by rw [qbo];rfl,e.symm,trivial⟩
 ·conv=>whnf
  have h0:bv r.den≠0:=by have:=of_decide_eq_false h;simpa [sg] using this
  have e:dn r.den=r.den:=by unfold dn;rw [if_neg h0]
  refine ⟨?_,trivial⟩
  conv=>whnf
  exact ⟨rfl,rfl,rfl,e.symm,trivial⟩
theorem qdM(z:Int){d:Nat}(hd:d≠0):(mkRat z d).num=z/(Nat.gcd z.natAbs d:Nat)/\(mkRat z d).den=d/Nat.gcd z.natAbs d:=by
 rw [<-Rat.normalize_eq_mkRat hd,Rat.num_normalize,Rat.den_normalize]
 exact ⟨rfl,rfl⟩
theorem qjt(n:Bool)(s:ByteArray)(m:Bool)(t:ByteArray)(hm:m=false)(ht:bv t≠0)(hs:s.size<500000000000)(hts:t.size<500000000000):
  Fun Tryz.prog 66 [frD n s m t] [qas (mkRat (sg n (bv s)) (bv t))] :=by
 subst hm
 obtain ⟨p1,p2⟩:=qdM (sg n (bv s)) ht
 rw [qdU] at p1 p2
 rw [qaN]
 have hg:Nat.gcd (bv s) (bv t)≠0:=fun h=>ht (Nat.gcd_eq_zero_iff.1 h).2
 generalize hgg:Nat.gcd (bv s) (bv t)=g at*
 have hgt:g<=bv t:=by rw [<-hgg];exact Nat.le_of_dvd (by omega) (Nat.gcd_dvd_right _ _)
 have hB:bv t<256^t.size:=qaV _
 have sg1:(nb (Int.natAbs (g:Int))).size<=t.size:=qhp (by omega)
 refine qad (fun t=>t==2||t==3||t==4||t==5||t==7||t==8||t==10) mixed tOk Tryz.func66 rfl rfl ?_
 conv=>whnf
 refine qaa rfl rfl (qEs n s 0 (by omega) (by omega)) ?_
 conv=>whnf
 rw [qmX]
 refine qal (fun h=> ?_) (fun h=> ?_)
 ·conv=>whnf
  have h0:sg n (bv s)=0:=of_decide_eq_true h
  rw [h0]
  have e:canon (mkRat 0 (bv t))=⟨false,emp,emp⟩:=by rw [Rat.zero_mkRat];decide
  rw [e]
  refine ⟨?_,trivial⟩
  conv=>whnf
  exact ⟨rfl,rfl,rfl,trivial⟩
 ·conv=>whnf
  have h0:sg n (bv s)≠0:=of_decide_eq_false h
  refine qa4 rfl rfl (gcd_c n false s t hs hts) rfl ?_
  conv=>whnf
  rw [hgg]
  refine qaa rfl rfl (qA5 _ _ _ _ hs (by omega) (by rw [qbp];exact_mod_cast hg)) ?_
  conv=>whnf
  refine qaa rfl rfl (qA5 false _ t _ hts (by omega) (by rw [qbp];exact_mod_cast hg)) ?_
  conv=>whnf
  have q1:(sg n (bv s)).fdiv (sg (ng (g:Int)) (bv (nb (g:Int).natAbs)))=(mkRat (sg n (bv s)) (bv t)).num:=by
   rw [qlw,p1,Int.fdiv_eq_ediv_of_nonneg _ (by omega)]
  have q2:(sg false (bv t)).fdiv (sg (ng (g:Int)) (bv (nb (g:Int).natAbs)))=((mkRat (sg n (bv s)) (bv t)).den:Int):=by
   rw [qlw,p2,Int.fdiv_eq_ediv_of_nonneg _ (by omega)];rfl
  rw [q1,q2]
  have hden:(mkRat (sg n (bv s)) (bv t)).den<=bv t:=by rw [p2];exact Nat.div_le_self _ _
  generalize mkRat (sg n (bv s)) (bv t)=q at*
  refine qaa rfl rfl (qEs _ _ 1 (by have:=qhp (a:=(q.den:Int).natAbs) (k:=t.size) (by omega);omega) (by omega)) ?_
  conv=>whnf
  rw [qmX,qlw]
  refine qbu (fun h1=> ?_) (fun h1=> ?_)
  ·conv=>whnf
   have h2:q.den≠1:=by have:=of_decide_eq_false h1;omega
   refine ⟨?_,trivial⟩
   conv=>whnf
   unfold canon
   rw [if_neg h2]
   exact ⟨qbo _,rfl,rfl,trivial⟩
  ·conv=>whnf
   have h2:q.den=1:=by have:=of_decide_eq_true h1;omega
   refine ⟨?_,trivial⟩
   conv=>whnf
   unfold canon
   rw [if_pos h2]
   exact ⟨qbo _,rfl,rfl,trivial⟩
theorem qmM(s:ByteArray)(hs:s.size<=7):Fun Tryz.prog 176 [.v (.string s)] [i64 (bv s)] :=by
 refine qad (fun t=>false) mixed tOk Tryz.func176 rfl rfl ?_
 conv=>whnf
 refine qah (fun t=>false) (fun i:Nat=>⟨fr 19 [(0,.d (.v (.string s))),(3,.d (i64 (pre s i))),(6,.d (i64 s.size)),(7,.d (i64 i))], []⟩) (fun i=>i<=s.size) (fun i=>s.size-i) 0 mixed tOk (Nat.zero_le _) ?_ ?_
 ·refine qag ?_ ?_<;>repeat' (first|exact trivial|exact rfl|apply And.intro)
 ·intro i hi
  conv=>whnf
  refine qaf (fun h2=> ?_) (fun h2=> ?_)<;>conv=>whnf
  ·obtain ⟨p1,p2⟩:=qer s i (by omega)
   have hp:=p54 (s:=s) (i:=i) (by omega) hs
   have h8:=sh8 (pre s i)
   refine qcU (by omega) (by omega) ?_
   conv=>whnf
   refine qak (by omega) ?_
   conv=>whnf
   generalize s.data.toList[i]'_=b at p1 p2
   have hb:=b.toNat_lt
   refine qak (by rw [p1];omega) ?_
   conv=>whnf
   refine qak (by omega) ?_
   conv=>whnf
   refine ⟨i+1,by omega,by omega, ?_⟩
   refine qag ?_ ?_<;>repeat' (first|exact trivial|exact rfl|apply And.intro)
   conv=>whnf
   rw [p1,p2,h8]
   exact qqJ _ _ (by omega) hp
  ·have hi2:i=s.size:=by omega
   refine ⟨?_,trivial⟩
   conv=>whnf
   rw [hi2,qeY]
@[irreducible] def smB(r:RD):Bool:=decide (r.num.size<=3/\r.den.size<=3)
theorem qng(r:RD):smB r=decide (r.num.size<=3/\r.den.size<=3):=by unfold smB;rfl
@[irreducible] def smN(r:RD):Int:=if smB r then sg r.neg (bv r.num) else 0
@[irreducible] def smD(r:RD):Int:=if smB r then (dv r.den:Int) else 0
theorem bv3{s:ByteArray}(h:s.size<=3):bv s<16777216:=by
 have h1:bv s<256^s.size:=qaV _
 have h2:256^s.size<=256^3:=Nat.pow_le_pow_right (by omega) h
 have h3:(256:Nat)^3=16777216:=rfl
 omega
theorem qfn(r:RD):Fun Tryz.prog 124 [rdD r] [i64 (smN r),i64 (smD r),.v (.bool (smB r))] :=by
 refine qad (fun t=>false) mixed tOk Tryz.func124 rfl rfl ?_
 conv=>whnf
 refine qaf (fun h1=> ?_) (fun h1=> ?_)<;>conv=>whnf
 ·have hb:smB r=false:=by rw [qng];simp;omega
  refine ⟨?_, ?_, ?_,trivial⟩
  ·conv=>whnf
   unfold smN;rw [hb];rfl
  ·conv=>whnf
   unfold smD;rw [hb];rfl
  ·conv=>whnf
   exact hb.symm
 ·refine qaf (fun h2=> ?_) (fun h2=> ?_)<;>conv=>whnf
  ·have hb:smB r=false:=by rw [qng];simp;omega
   refine ⟨?_, ?_, ?_,trivial⟩
   ·conv=>whnf
    unfold smN;rw [hb];rfl
   ·conv=>whnf
    unfold smD;rw [hb];rfl
   ·conv=>whnf
    exact hb.symm
  ·have hb:smB r=true:=by rw [qng];simp;omega
   have b1:=bv3 (s:=r.num) (by omega)
   have b2:=bv3 (s:=r.den) (by omega)
   refine qab (qmM r.num (by omega)) ?_
   conv=>whnf
   refine qab (qmM r.den (by omega)) ?_
   conv=>whnf
   refine qac (by kernel_rfl) ?_
   conv=>whnf
   have e:(if ((bv r.den:Nat):Int)<1 then (1:Int) else ((bv r.den:Nat):Int))=smD r:=by
    unfold smD;rw [hb,if_pos rfl];unfold dv;split<;>split<;>omega
   have e1: ∀n,r.neg=n->sg n (bv r.num)=smN r:=fun n hn=>by
    unfold smN;rw [hb,if_pos rfl,hn]
   refine qal (fun h3=> ?_) (fun h3=> ?_)
   ·conv=>whnf
    refine qak (by omega) ?_
    conv=>whnf
    refine ⟨?_,e,hb.symm,trivial⟩
    conv=>whnf
    rw [<-e1 _ h3];simp [sg]
   ·conv=>whnf
    refine ⟨?_,e,hb.symm,trivial⟩
    conv=>whnf
    rw [<-e1 _ h3];simp [sg]
def tl:Nat->Nat->List UInt8
 |0,_=> []
 |k+1,n=>tl k (n/256)++ [UInt8.ofNat (n%256)]
theorem qty: ∀(k n:Nat),n<256^k->(k≠0->256^(k-1)<=n)->nbl n=tl k n
 |0,n,h,_=>by
  have:n=0:=by simpa using h
  subst this;rw [qaQ];rfl
 |k+1,n,h,h2=>by
  have h0:n≠0:=by
   have:=h2 (by omega)
   have h3:0<256^(k+1-1):=Nat.pow_pos (by omega)
   omega
  rw [qbM h0,tl,qty k (n/256) (by rw [Nat.div_lt_iff_lt_mul (by omega), <-Nat.pow_succ];exact h) (fun hk=>by
   rw [Nat.le_div_iff_mul_le (by omega), <-Nat.pow_succ]
   have:=h2 (by omega)
   rwa [show (k-1).succ=k+1-1 by omega])]
def tD(k n j:Nat):D:= .v (.int .u8 (if j<k then ((n/256^j%256:Nat):Int) else 0))
def tSt(k n:Nat):St:=⟨fr 18 [(0,.d (i64 ((n/256^k:Nat):Int))),(3,.ptr 0 0 0),(4,.d (i64 (8-(k:Int))))], [.box 195 [.d (tD k n 7),.d (tD k n 6),.d (tD k n 5),.d (tD k n 4),.d (tD k n 3),.d (tD k n 2),.d (tD k n 1),.d (tD k n 0)]]⟩
theorem qAc(k n:Nat)(hk:k<=8):qcr [tD k n 7,tD k n 6,tD k n 5,tD k n 4,tD k n 3,tD k n 2,tD k n 1,tD k n 0] (8-(k:Int)).toNat 8=by8 (tl k n):=by
 have hkk:k=0\/k=1\/k=2\/k=3\/k=4\/k=5\/k=6\/k=7\/k=8:=by omega
 rcases hkk with rfl|rfl|rfl|rfl|rfl|rfl|rfl|rfl|rfl<;>simp [qcr,tl,by8,tD,Nat.div_div_eq_div_mul]
theorem qdN{k n:Nat}(hk:k<=8)(h:n<256^k)(h2:k≠0->256^(k-1)<=n):
  qf9 (qcr [tD k n 7,tD k n 6,tD k n 5,tD k n 4,tD k n 3,tD k n 2,tD k n 1,tD k n 0] (8-(k:Int)).toNat 8)=nb n:=by
 rw [qAc k n hk,qlA, <-qty k n h h2];rfl
theorem qFQ(n:Nat):Int.fdiv (n:Int) (2^min (Int.toNat 8) IntKind.i64.bits)=((n/256:Nat):Int):=by
 have:((2:Int)^min (Int.toNat 8) IntKind.i64.bits)=256:=by decide
 rw [this,Int.fdiv_eq_ediv_of_nonneg _ (by decide)];rfl
theorem quc(n:Nat)(hn:n<9223372036854775808):Fun Tryz.prog 125 [i64 n] [.v (.string (nb n))] :=by
 refine qad (fun t=>t==3) mixed tOk Tryz.func125 rfl rfl ?_
 conv=>whnf
 refine qah (fun t=>t==3) (fun k:Nat=>tSt k n) (fun k=>k<=8/\(k≠0->256^(k-1)<=n)) (fun k=>8-k) 0 mixed tOk ⟨by omega,by omega⟩ ?_ ?_
 conv=>whnf
 ·refine qag ?_ ?_<;>repeat' (first|exact trivial|exact rfl|apply And.intro)
  conv=>whnf
  rw [Nat.pow_zero,Nat.div_one]
 ·rintro k ⟨hk,hk2⟩
  have hkk:k=0\/k=1\/k=2\/k=3\/k=4\/k=5\/k=6\/k=7\/k=8:=by omega
  have hlt: ∀k:Nat,¬((n/256^k:Nat):Int)>0->n<256^k:=fun k h=>by
   have h0:n/256^k=0:=by generalize n/256^k=q at h;omega
   exact (Nat.div_eq_zero_iff.1 h0).resolve_left (Nat.ne_of_gt (Nat.pow_pos (by omega)))
  have hge: ∀k:Nat,((n/256^k:Nat):Int)>0->256^k<=n:=fun k h=>by
   rcases Nat.lt_or_ge n (256^k) with h1|h1
   ·rw [Nat.div_eq_of_lt h1] at h;omega
   ·exact h1
  have hsh: ∀k:Nat,Int.fdiv ((n/256^k:Nat):Int) (2^min (Int.toNat 8) IntKind.i64.bits)=((n/256^(k+1):Nat):Int):=fun k=>by
   rw [qFQ,Nat.div_div_eq_div_mul, <-Nat.pow_succ]
  rcases hkk with rfl|rfl|rfl|rfl|rfl|rfl|rfl|rfl|rfl
  ·conv=>whnf
   refine qaf (fun h=> ?_) (fun h=> ?_)
   ·conv=>whnf
    refine qak (by omega) ?_
    conv=>whnf
    refine qak (by omega) ?_
    conv=>whnf
    refine qak (by omega) ?_
    conv=>whnf
    refine ⟨0+1,⟨by omega,fun _=>hge 0 h⟩,by omega, ?_⟩
    refine qag ?_ ?_<;>repeat' (first|exact trivial|exact rfl|apply And.intro)
    all_goals conv=>whnf
    exact hsh 0
   ·conv=>whnf
    refine qak (by simp only [maxLen];omega) ?_
    conv=>whnf
    refine qaA (by rfl) ?_
    conv=>whnf
    refine ⟨?_,trivial⟩
    conv=>whnf
    exact qdN (k:=0) hk (hlt 0 h) hk2
  ·conv=>whnf
   refine qaf (fun h=> ?_) (fun h=> ?_)
   ·conv=>whnf
    refine qak (by omega) ?_
    conv=>whnf
    refine qak (by omega) ?_
    conv=>whnf
    refine qak (by omega) ?_
    conv=>whnf
    refine ⟨1+1,⟨by omega,fun _=>hge 1 h⟩,by omega, ?_⟩
    refine qag ?_ ?_<;>repeat' (first|exact trivial|exact rfl|apply And.intro)
    all_goals conv=>whnf
    exact hsh 1
   ·conv=>whnf
    refine qak (by simp only [maxLen];omega) ?_
    conv=>whnf
    refine qaA (by rfl) ?_
    conv=>whnf
    refine ⟨?_,trivial⟩
    conv=>whnf
    exact qdN (k:=1) hk (hlt 1 h) hk2
  ·conv=>whnf
   refine qaf (fun h=> ?_) (fun h=> ?_)
   ·conv=>whnf
    refine qak (by omega) ?_
    conv=>whnf
    refine qak (by omega) ?_
    conv=>whnf
    refine qak (by omega) ?_
    conv=>whnf
    refine ⟨2+1,⟨by omega,fun _=>hge 2 h⟩,by omega, ?_⟩
    refine qag ?_ ?_<;>repeat' (first|exact trivial|exact rfl|apply And.intro)
    all_goals conv=>whnf
    exact hsh 2
   ·conv=>whnf
    refine qak (by simp only [maxLen];omega) ?_
    conv=>whnf
    refine qaA (by rfl) ?_
    conv=>whnf
    refine ⟨?_,trivial⟩
    conv=>whnf
    exact qdN (k:=2) hk (hlt 2 h) hk2
  ·conv=>whnf
   refine qaf (fun h=> ?_) (fun h=> ?_)
   ·conv=>whnf
    refine qak (by omega) ?_
    conv=>whnf
    refine qak (by omega) ?_
    conv=>whnf
    refine qak (by omega) ?_
    conv=>whnf
    refine ⟨3+1,⟨by omega,fun _=>hge 3 h⟩,by omega, ?_⟩
    refine qag ?_ ?_<;>repeat' (first|exact trivial|exact rfl|apply And.intro)
    all_goals conv=>whnf
    exact hsh 3
   ·conv=>whnf
    refine qak (by simp only [maxLen];omega) ?_
    conv=>whnf
    refine qaA (by rfl) ?_
    conv=>whnf
    refine ⟨?_,trivial⟩
    conv=>whnf
    exact qdN (k:=3) hk (hlt 3 h) hk2
  ·conv=>whnf
   refine qaf (fun h=> ?_) (fun h=> ?_)
   ·conv=>whnf
    refine qak (by omega) ?_
    conv=>whnf
    refine qak (by omega) ?_
    conv=>whnf
    refine qak (by omega) ?_
    conv=>whnf
    refine ⟨4+1,⟨by omega,fun _=>hge 4 h⟩,by omega, ?_⟩
    refine qag ?_ ?_<;>repeat' (first|exact trivial|exact rfl|apply And.intro)
    all_goals conv=>whnf
    exact hsh 4
   ·conv=>whnf
    refine qak (by simp only [maxLen];omega) ?_
    conv=>whnf
    refine qaA (by rfl) ?_
    conv=>whnf
    refine ⟨?_,trivial⟩
    conv=>whnf
    exact qdN (k:=4) hk (hlt 4 h) hk2
  ·conv=>whnf
   refine qaf (fun h=> ?_) (fun h=> ?_)
   ·conv=>whnf
    refine qak (by omega) ?_
    conv=>whnf
    refine qak (by omega) ?_
    conv=>whnf
    refine qak (by omega) ?_
    conv=>whnf
    refine ⟨5+1,⟨by omega,fun _=>hge 5 h⟩,by omega, ?_⟩
    refine qag ?_ ?_<;>repeat' (first|exact trivial|exact rfl|apply And.intro)
    all_goals conv=>whnf
    exact hsh 5
   ·conv=>whnf
    refine qak (by simp only [maxLen];omega) ?_
    conv=>whnf
    refine qaA (by rfl) ?_
    conv=>whnf
    refine ⟨?_,trivial⟩
    conv=>whnf
    exact qdN (k:=5) hk (hlt 5 h) hk2
  ·conv=>whnf
   refine qaf (fun h=> ?_) (fun h=> ?_)
   ·conv=>whnf
    refine qak (by omega) ?_
    conv=>whnf
    refine qak (by omega) ?_
    conv=>whnf
    refine qak (by omega) ?_
    conv=>whnf
    refine ⟨6+1,⟨by omega,fun _=>hge 6 h⟩,by omega, ?_⟩
    refine qag ?_ ?_<;>repeat' (first|exact trivial|exact rfl|apply And.intro)
    all_goals conv=>whnf
    exact hsh 6
   ·conv=>whnf
    refine qak (by simp only [maxLen];omega) ?_
    conv=>whnf
    refine qaA (by rfl) ?_
    conv=>whnf
    refine ⟨?_,trivial⟩
    conv=>whnf
    exact qdN (k:=6) hk (hlt 6 h) hk2
  ·conv=>whnf
   refine qaf (fun h=> ?_) (fun h=> ?_)
   ·conv=>whnf
    refine qak (by omega) ?_
    conv=>whnf
    refine qak (by omega) ?_
    conv=>whnf
    refine qak (by omega) ?_
    conv=>whnf
    refine ⟨7+1,⟨by omega,fun _=>hge 7 h⟩,by omega, ?_⟩
    refine qag ?_ ?_<;>repeat' (first|exact trivial|exact rfl|apply And.intro)
    all_goals conv=>whnf
    exact hsh 7
   ·conv=>whnf
    refine qak (by simp only [maxLen];omega) ?_
    conv=>whnf
    refine qaA (by rfl) ?_
    conv=>whnf
    refine ⟨?_,trivial⟩
    conv=>whnf
    exact qdN (k:=7) hk (hlt 7 h) hk2
  ·conv=>whnf
   refine qaf (fun h=> ?_) (fun h=> ?_)
   ·conv=>whnf
    exact absurd h (by have:n/256^8=0:=Nat.div_eq_of_lt (Nat.lt_of_lt_of_le hn (by decide));omega)
   ·conv=>whnf
    refine qak (by simp only [maxLen];omega) ?_
    conv=>whnf
    refine qaA (by rfl) ?_
    conv=>whnf
    refine ⟨?_,trivial⟩
    conv=>whnf
    exact qdN (k:=8) hk (hlt 8 h) hk2
theorem ql6(q:Rat):qel q=decide (q.num<0):=by unfold qel canon;rfl
theorem qlZ(q:Rat):qeC q=nb q.num.natAbs:=by unfold qeC canon;rfl
theorem qjK(q:Rat):qeB q=if q.den=1 then emp else nb q.den:=by unfold qeB canon;rfl
def qE0(n d:Int)(x y:Int):St:=⟨fr 43 [(0,.d (i64 n)),(1,.d (i64 d)),(4,.ptr 0 0 0),(5,.d (i64 x)),(6,.d (i64 y))], [.box 23 [.d (.v (.bool false)),.d (.v (.string ⟨#[]⟩)),.d (.v (.string ⟨#[]⟩))]]⟩
theorem qrg(n d:Int)(hn: -4000000000000000000<n/\n<4000000000000000000)(hd:0<d/\d<4000000000000000000):Fun Tryz.prog 63 [i64 n,i64 d] [qas (mkRat n d.toNat)] :=by
 refine qad (fun t=>t==4||t==8) mixed tOk Tryz.func63 rfl rfl ?_
 conv=>whnf
 refine qah (fun t=>t==4||t==8) (fun p:Int×Int=>qE0 n d p.1 p.2) (fun p=>Nat.gcd p.1.natAbs p.2.natAbs=Nat.gcd n.natAbs d.natAbs/\p.1.natAbs<4000000000000000000/\p.2.natAbs<4000000000000000000) (fun p=>p.2.natAbs) (n,d) mixed tOk ⟨rfl,by show n.natAbs<_;omega,by show d.natAbs<_;omega⟩ ?_ ?_
 conv=>whnf
 ·refine qag ?_ ?_<;>repeat' (first|exact trivial|exact rfl|apply And.intro)
 ·rintro ⟨x,y⟩ ⟨e,hx,hy⟩
  simp only at e hx hy
  show go _ _ _ _ (qE0 n d x y) _
  conv=>whnf
  refine qav (fun h=> ?_) (fun h=> ?_)
  ·conv=>whnf
   refine qak h ?_
   conv=>whnf
   refine qac (by kernel_rfl) ?_
   conv=>whnf
   have e1:(x.tmod y).natAbs=x.natAbs%y.natAbs:=Int.natAbs_tmod x y
   have e2:=Nat.mod_lt x.natAbs (show 0<y.natAbs by omega)
   refine ⟨(y,x.tmod y),⟨?_,by show y.natAbs<_;omega,by show (x.tmod y).natAbs<_;omega⟩,by show (x.tmod y).natAbs<y.natAbs;omega, ?_⟩
   ·show Nat.gcd y.natAbs (x.tmod y).natAbs=_
    rw [e1, <-e];exact (Nat.gcd_comm _ _).trans ((Nat.gcd_rec y.natAbs x.natAbs).symm.trans (Nat.gcd_comm _ _))
   ·refine qag ?_ ?_<;>repeat' (first|exact trivial|exact rfl|apply And.intro)
  ·subst h
   have hG:x.natAbs=Nat.gcd n.natAbs d.natAbs:=by rw [<-e];simp
   have hdd:(d.toNat:Int)=d:=by omega
   have hdn:d.natAbs=d.toNat:=by omega
   rw [hdn] at hG
   have hd0:d.toNat≠0:=by omega
   have hG0:Nat.gcd n.natAbs d.toNat≠0:=fun h=>hd0 (Nat.gcd_eq_zero_iff.1 h).2
   obtain ⟨p1,p2⟩:=qdM n hd0
   have hgd:Nat.gcd n.natAbs d.toNat<=d.toNat:=Nat.le_of_dvd (by omega) (Nat.gcd_dvd_right _ _)
   have hdg0:Nat.gcd n.natAbs d.toNat∣d.toNat:=Nat.gcd_dvd_right _ _
   have hdv:Nat.gcd n.natAbs d.toNat∣n.natAbs:=Nat.gcd_dvd_left _ _
   generalize Nat.gcd n.natAbs d.toNat=G at*
   conv=>whnf
   refine qak (by omega) ?_
   conv=>whnf
   have hmx: ∀z:Int,(if z< -z then-z else z)=(z.natAbs:Int):=fun z=>by split<;>omega
   have hmx2: ∀z:Int,(if z<0-z then 0-z else z)=(z.natAbs:Int):=fun z=>by split<;>omega
   refine qa9 (fun h0=> ?_) (fun h0=> ?_)
   ·conv=>whnf
    refine ⟨?_,trivial⟩
    subst h0
    rw [qaN]
    conv=>whnf
    have ec:canon (mkRat 0 d.toNat)=⟨false,emp,emp⟩:=by rw [Rat.zero_mkRat];decide
    rw [ec]
    exact ⟨rfl,rfl,rfl,trivial⟩
   ·conv=>whnf
    refine qak (by omega) ?_
    conv=>whnf
    have etd: ∀a b:Nat,Int.tdiv (a:Int) (b:Int)=((a/b:Nat):Int):=fun a b=>by
     rw [Int.tdiv_eq_ediv_of_nonneg (by omega)];rfl
    have hq:=Nat.div_le_self n.natAbs G
    have hq2:=Nat.div_le_self d.toNat G
    rw [hmx2,hmx2,hG,etd]
    obtain ⟨u,hu⟩: ∃u,u=n.natAbs/G:=⟨_,rfl⟩
    rw [<-hu] at hq ⊢
    refine qcU (by omega) (by omega) ?_
    conv=>whnf
    refine qaa rfl rfl (quc u (by omega)) ?_
    conv=>whnf
    have hdvI:(G:Int)∣n:=Int.ofNat_dvd_left.2 hdv
    have e1:nb u=qeC (mkRat n d.toNat):=by
     rw [qlZ,p1,Int.natAbs_ediv_of_dvd hdvI,hu];rfl
    have e2:decide (n<0)=qel (mkRat n d.toNat):=by
     rw [ql6,p1]
     by_cases hneg:n<0
     ·simp [hneg,Int.ediv_neg_of_neg_of_pos hneg (show (0:Int)<G by omega)]
     ·have:=Int.ediv_nonneg (show 0<=n by omega) (show (0:Int)<=G by omega)
      simp [hneg];omega
    obtain ⟨v,hv⟩: ∃v,v=d.toNat/G:=⟨_,rfl⟩
    have hdt:d.tdiv (G:Int)=(v:Int):=by rw [<-hdd,etd,hv]
    rw [<-hv] at hq2 p2
    refine qav (fun h1=> ?_) (fun h1=> ?_)
    ·conv=>whnf
     rw [hdt]
     refine qcU (by omega) (by omega) ?_
     conv=>whnf
     refine qaa rfl rfl (quc v (by omega)) ?_
     conv=>whnf
     have h2:v≠1:=by
      intro h;apply h1
      have:=Nat.div_mul_cancel hdg0
      rw [<-hv,h] at this
      omega
     have e3:nb v=qeB (mkRat n d.toNat):=by
      rw [qjK,p2,if_neg h2]
     refine ⟨?_,trivial⟩
     conv=>whnf
     exact ⟨by rw [qaH,e2];exact rfl,e1,e3,trivial⟩
    ·conv=>whnf
     have h2:v=1:=by
      rw [hv]
      have:d.toNat=G:=by rw [h1] at hdd;omega
      rw [this];exact Nat.div_self (by omega)
     have e3:emp=qeB (mkRat n d.toNat):=by
      rw [qjK,p2,if_pos h2]
     refine ⟨?_,trivial⟩
     conv=>whnf
     exact ⟨by rw [qaH,e2];exact rfl,e1,e3,trivial⟩
def Sz(r:RD):Prop:=r.num.size<100000000000/\r.den.size<100000000000
theorem qmZ{r:RD}(h:smB r=true):r.num.size<=3/\r.den.size<=3:=by rw [qng] at h;exact of_decide_eq_true h
theorem qe3{r:RD}(h:smB r=true):smN r=sg r.neg (bv r.num):=by unfold smN;rw [h];rfl
theorem qdB{r:RD}(h:smB r=true):smD r=(dv r.den:Int):=by unfold smD;rw [h];rfl
theorem qiS{r:RD}(h:smB r=true): -16777216<smN r/\smN r<16777216:=by
 rw [qe3 h]
 have:=bv3 (qmZ h).1
 unfold sg;split<;>omega
theorem qir{r:RD}(h:smB r=true):0<smD r/\smD r<16777216:=by
 rw [qdB h]
 have:=bv3 (qmZ h).2
 unfold dv;split<;>omega
theorem qtJ(r s:RD)(f g:FuncId)(q:Rat)(hr:Sz r)(hs:Sz s)
  (h1:smB r=true->smB s=true->Fun Tryz.prog f [i64 (smN r),i64 (smD r),i64 (smN s),i64 (smD s)] [qas q]) (h2:Fun Tryz.prog g [ofD r,ofD s] [qas q]):
  Fun Tryz.prog 61 [rdD r,rdD s,.f f [],.f g []] [qas q] :=by
 refine qad (fun t=>t==8) mixed tOk Tryz.func61 rfl rfl ?_
 conv=>whnf
 refine qaa rfl rfl (qfn r) ?_
 conv=>whnf
 refine qaa rfl rfl (qfn s) ?_
 conv=>whnf
 refine qal (fun h3=> ?_) (fun h3=> ?_)
 ·conv=>whnf
  refine qal (fun h4=> ?_) (fun h4=> ?_)
  ·conv=>whnf
   refine qaa rfl rfl (h1 h3 h4) ?_
   conv=>whnf
   refine ⟨?_,trivial⟩
   conv=>whnf
   exact ⟨rfl,rfl,rfl,trivial⟩
  ·conv=>whnf
   refine qab (qgi r (by have:=hr.2;omega)) ?_
   conv=>whnf
   refine qab (qgi s (by have:=hs.2;omega)) ?_
   conv=>whnf
   refine qab h2 ?_
   conv=>whnf
   refine qac (by kernel_rfl) ?_
   conv=>whnf
   refine ⟨?_,trivial⟩
   conv=>whnf
   exact ⟨rfl,rfl,rfl,trivial⟩
 ·conv=>whnf
  refine qab (qgi r (by have:=hr.2;omega)) ?_
  conv=>whnf
  refine qab (qgi s (by have:=hs.2;omega)) ?_
  conv=>whnf
  refine qab h2 ?_
  conv=>whnf
  refine qac (by kernel_rfl) ?_
  conv=>whnf
  refine ⟨?_,trivial⟩
  conv=>whnf
  exact ⟨rfl,rfl,rfl,trivial⟩
theorem qwE(r s:RD)(f g:FuncId)(q:Int)(hr:Sz r)(hs:Sz s)
  (h1:smB r=true->smB s=true->Fun Tryz.prog f [i64 (smN r),i64 (smD r),i64 (smN s),i64 (smD s)] [i64 q]) (h2:Fun Tryz.prog g [ofD r,ofD s] [i64 q]):
  Fun Tryz.prog 70 [rdD r,rdD s,.f f [],.f g []] [i64 q] :=by
 refine qad (fun t=>t==8) mixed tOk Tryz.func70 rfl rfl ?_
 conv=>whnf
 refine qaa rfl rfl (qfn r) ?_
 conv=>whnf
 refine qaa rfl rfl (qfn s) ?_
 conv=>whnf
 refine qal (fun h3=> ?_) (fun h3=> ?_)
 ·conv=>whnf
  refine qal (fun h4=> ?_) (fun h4=> ?_)
  ·conv=>whnf
   refine qaa rfl rfl (h1 h3 h4) ?_
   conv=>whnf
   refine ⟨?_,trivial⟩
   conv=>whnf
  ·conv=>whnf
   refine qab (qgi r (by have:=hr.2;omega)) ?_
   conv=>whnf
   refine qab (qgi s (by have:=hs.2;omega)) ?_
   conv=>whnf
   refine qab h2 ?_
   conv=>whnf
   refine qac (by kernel_rfl) ?_
   conv=>whnf
   refine ⟨?_,trivial⟩
   conv=>whnf
 ·conv=>whnf
  refine qab (qgi r (by have:=hr.2;omega)) ?_
  conv=>whnf
  refine qab (qgi s (by have:=hs.2;omega)) ?_
  conv=>whnf
  refine qab h2 ?_
  conv=>whnf
  refine qac (by kernel_rfl) ?_
  conv=>whnf
  refine ⟨?_,trivial⟩
  conv=>whnf
theorem qik{a b:Int}(ha: -16777216<a/\a<16777216)(hb: -16777216<b/\b<16777216): -281474976710656<a*b/\a*b<281474976710656:=by
 have h:(a*b).natAbs<=16777215*16777215:=by
  rw [Int.natAbs_mul]
  exact Nat.mul_le_mul (by omega) (by omega)
 omega
theorem qiQ{a b:Int}(ha:0<a/\a<16777216)(hb:0<b/\b<16777216):0<a*b/\a*b<281474976710656:=
 ⟨Int.mul_pos ha.1 hb.1,(qik (by omega) (by omega)).2⟩
theorem qzf(n d m e:Int)(hn: -16777216<n/\n<16777216)(hd:0<d/\d<16777216)(hm: -16777216<m/\m<16777216)(he:0<e/\e<16777216):
  Fun Tryz.prog 112 [i64 n,i64 d,i64 m,i64 e] [qas (mkRat (n*e+m*d) (d*e).toNat)] :=by
 have b1:=qik hn (show-16777216<e/\e<16777216 by omega)
 have b2:=qik hm (show-16777216<d/\d<16777216 by omega)
 have b3:=qiQ hd he
 refine qad (fun t=>t==8) mixed tOk Tryz.func112 rfl rfl ?_
 conv=>whnf
 refine qak (by omega) ?_
 conv=>whnf
 refine qak (by omega) ?_
 conv=>whnf
 refine qak (by omega) ?_
 conv=>whnf
 refine qak (by omega) ?_
 conv=>whnf
 refine qaa rfl rfl (qrg (n*e+m*d) (d*e) (by omega) (by omega)) ?_
 conv=>whnf
 refine ⟨?_,trivial⟩
 conv=>whnf
 exact ⟨rfl,rfl,rfl,trivial⟩
theorem qzI(n d m e:Int)(hn: -16777216<n/\n<16777216)(hd:0<d/\d<16777216)(hm: -16777216<m/\m<16777216)(he:0<e/\e<16777216):
  Fun Tryz.prog 62 [i64 n,i64 d,i64 m,i64 e] [qas (mkRat (n*m) (d*e).toNat)] :=by
 have b1:=qik hn hm
 have b3:=qiQ hd he
 refine qad (fun t=>t==8) mixed tOk Tryz.func62 rfl rfl ?_
 conv=>whnf
 refine qak (by omega) ?_
 conv=>whnf
 refine qak (by omega) ?_
 conv=>whnf
 refine qaa rfl rfl (qrg (n*m) (d*e) (by omega) (by omega)) ?_
 conv=>whnf
 refine ⟨?_,trivial⟩
 conv=>whnf
 exact ⟨rfl,rfl,rfl,trivial⟩
theorem qcu(n:Bool)(s:ByteArray):(sg n (bv s)).natAbs<256^s.size:=by rw [qdU];exact qaV _
theorem qdC{x y:Int}{a b:Nat}(hx:x.natAbs<256^a)(hy:y.natAbs<256^b):(x*y).natAbs<256^(a+b):=by
 rw [Int.natAbs_mul,Nat.pow_add]
 exact Nat.mul_lt_mul'' hx hy
theorem qxp{x y:Int}{a b:Nat}(hx:x.natAbs<256^a)(hy:y.natAbs<256^b):(x+y).natAbs<256^(a+b+1):=by
 have h1:=Nat.pow_le_pow_right (n:=256) (by omega) (show a<=a+b by omega)
 have h2:=Nat.pow_le_pow_right (n:=256) (by omega) (show b<=a+b by omega)
 have h3:=Int.natAbs_add_le x y
 rw [Nat.pow_succ];omega
theorem qiL{x:Int}{a:Nat}(hx:x.natAbs<256^a):(nb x.natAbs).size<=a:=qhp hx
theorem qfg(Z D:Int)(k l:Nat)(hD:0<D)(hZk:Z.natAbs<256^k)(hDk:D.natAbs<256^l)(hk:k<500000000000)(hl:l<500000000000):
  Fun Tryz.prog 66 [frD (ng Z) (nb Z.natAbs) (ng D) (nb D.natAbs)] [qas (mkRat Z D.toNat)] :=by
 have h:=qjt (ng Z) (nb Z.natAbs) (ng D) (nb D.natAbs) (by rw [qbo];simp;omega) (by rw [qbp];omega) (by have:=qhp hZk;omega) (by have:=qhp hDk;omega)
 rw [qlw,qbp] at h
 rwa [show mkRat Z D.natAbs=mkRat Z D.toNat by rw [show D.natAbs=D.toNat by omega]] at h
theorem qzj(r s:RD)(hr:Sz r)(hs:Sz s):Fun Tryz.prog 113 [ofD r,ofD s] [qas (mkRat (sg r.neg (bv r.num)*dv s.den+sg s.neg (bv s.num)*dv r.den) (dv r.den*dv s.den))] :=by
 have z1:=qdc r.den
 have z2:=qdc s.den
 have e1:sg false (bv (dn r.den))=(dv r.den:Int):=by rw [qgF];rfl
 have e2:sg false (bv (dn s.den))=(dv s.den:Int):=by rw [qgF];rfl
 have k1:=qcu r.neg r.num
 have k2:=qcu s.neg s.num
 have k3:=qcu false (dn r.den)
 have k4:=qcu false (dn s.den)
 have m1:=qdC k1 k4
 have m2:=qdC k2 k3
 have m3:=qdC k3 k4
 have m4:=qxp m1 m2
 have p1:=qcm r.den
 have p2:=qcm s.den
 obtain ⟨hr1,hr2⟩:=hr
 obtain ⟨hs1,hs2⟩:=hs
 refine qad (fun t=>t==4) mixed tOk Tryz.func113 rfl rfl ?_
 conv=>whnf
 refine qab (qjQ _ _ _ _ (by omega) (by omega)) ?_
 conv=>whnf
 refine qab (qjQ _ _ _ _ (by omega) (by omega)) ?_
 conv=>whnf
 refine qab (qu5 _ _ _ _ (by have:=qiL m1;omega) (by have:=qiL m2;omega)) ?_
 conv=>whnf
 refine qab (qjQ _ _ _ _ (by omega) (by omega)) ?_
 conv=>whnf
 rw [qlw,qlw]
 refine qab (qfg _ _ _ _ (by rw [e1,e2];exact_mod_cast Nat.mul_pos p1 p2) m4 m3 (by omega) (by omega)) ?_
 conv=>whnf
 refine qac (by kernel_rfl) ?_
 conv=>whnf
 rw [e1,e2,show ((dv r.den:Int)*(dv s.den:Int)).toNat=dv r.den*dv s.den by rw [<-Int.natCast_mul];rfl]
 refine ⟨?_,trivial⟩
 conv=>whnf
 exact ⟨rfl,rfl,rfl,trivial⟩
theorem qyC(r s:RD)(hr:Sz r)(hs:Sz s):Fun Tryz.prog 64 [ofD r,ofD s] [qas (mkRat (sg r.neg (bv r.num)*sg s.neg (bv s.num)) (dv r.den*dv s.den))] :=by
 have z1:=qdc r.den
 have z2:=qdc s.den
 have e1:sg false (bv (dn r.den))=(dv r.den:Int):=by rw [qgF];rfl
 have e2:sg false (bv (dn s.den))=(dv s.den:Int):=by rw [qgF];rfl
 have k1:=qcu r.neg r.num
 have k2:=qcu s.neg s.num
 have k3:=qcu false (dn r.den)
 have k4:=qcu false (dn s.den)
 have m1:=qdC k1 k2
 have m3:=qdC k3 k4
 have p1:=qcm r.den
 have p2:=qcm s.den
 obtain ⟨hr1,hr2⟩:=hr
 obtain ⟨hs1,hs2⟩:=hs
 refine qad (fun t=>t==4) mixed tOk Tryz.func64 rfl rfl ?_
 conv=>whnf
 refine qab (qjQ _ _ _ _ (by omega) (by omega)) ?_
 conv=>whnf
 refine qab (qjQ _ _ _ _ (by omega) (by omega)) ?_
 conv=>whnf
 refine qab (qfg _ _ _ _ (by rw [e1,e2];exact_mod_cast Nat.mul_pos p1 p2) m1 m3 (by omega) (by omega)) ?_
 conv=>whnf
 refine qac (by kernel_rfl) ?_
 conv=>whnf
 rw [e1,e2,show ((dv r.den:Int)*(dv s.den:Int)).toNat=dv r.den*dv s.den by rw [<-Int.natCast_mul];rfl]
 refine ⟨?_,trivial⟩
 conv=>whnf
 exact ⟨rfl,rfl,rfl,trivial⟩
theorem qyH(r s:RD)(hr:Sz r)(hs:Sz s):Fun Tryz.prog 72 [ofD r,ofD s] [i64 (qgB (sg r.neg (bv r.num)*dv s.den) (sg s.neg (bv s.num)*dv r.den))] :=by
 have z1:=qdc r.den
 have z2:=qdc s.den
 have e1:sg false (bv (dn r.den))=(dv r.den:Int):=by rw [qgF];rfl
 have e2:sg false (bv (dn s.den))=(dv s.den:Int):=by rw [qgF];rfl
 have k1:=qcu r.neg r.num
 have k2:=qcu s.neg s.num
 have k3:=qcu false (dn r.den)
 have k4:=qcu false (dn s.den)
 have m1:=qiL (qdC k1 k4)
 have m2:=qiL (qdC k2 k3)
 obtain ⟨hr1,hr2⟩:=hr
 obtain ⟨hs1,hs2⟩:=hs
 refine qad (fun t=>t==4) mixed tOk Tryz.func72 rfl rfl ?_
 conv=>whnf
 refine qab (qjQ _ _ _ _ (by omega) (by omega)) ?_
 conv=>whnf
 refine qab (qjQ _ _ _ _ (by omega) (by omega)) ?_
 conv=>whnf
 refine qab (qeq _ _ _ _ (by omega) (by omega)) ?_
 conv=>whnf
 refine qac (by kernel_rfl) ?_
 conv=>whnf
 refine ⟨?_,trivial⟩
 conv=>whnf
 rw [qlw,qlw,e1,e2]
theorem qy5(n d m e:Int)(hn: -16777216<n/\n<16777216)(hd:0<d/\d<16777216)(hm: -16777216<m/\m<16777216)(he:0<e/\e<16777216):
  Fun Tryz.prog 71 [i64 n,i64 d,i64 m,i64 e] [i64 (qgB (n*e) (m*d))] :=by
 have b1:=qik hn (show-16777216<e/\e<16777216 by omega)
 have b2:=qik hm (show-16777216<d/\d<16777216 by omega)
 refine qad (fun t=>false) mixed tOk Tryz.func71 rfl rfl ?_
 conv=>whnf
 refine qak (by omega) ?_
 conv=>whnf
 refine qak (by omega) ?_
 conv=>whnf
 refine qaf (fun h=> ?_) (fun h=> ?_)
 ·conv=>whnf
  refine ⟨?_,trivial⟩
  conv=>whnf
  unfold qgB;rw [if_pos h]
 ·conv=>whnf
  refine qaf (fun h2=> ?_) (fun h2=> ?_)
  ·conv=>whnf
   refine ⟨?_,trivial⟩
   conv=>whnf
   unfold qgB;rw [if_neg h,if_pos h2]
  ·conv=>whnf
   refine ⟨?_,trivial⟩
   conv=>whnf
   unfold qgB;rw [if_neg h,if_neg h2]
theorem qct(r:RD):r.val=mkRat (sg r.neg (bv r.num)) (dv r.den):=rfl
theorem qhb(t:ByteArray):dv t≠0:=Nat.ne_of_gt (qcm t)
@[irreducible] def qdk(p q:Rat):Int:=qte p q
@[irreducible] def qfQ(p:Rat):Int:=qpp p
theorem qed(p q:Rat):qdk p q=qte p q:=by unfold qdk;rfl
theorem qc8(p:Rat):qfQ p=qpp p:=by unfold qfQ;rfl
theorem toNat_mul(a b:Nat):((a:Int)*(b:Int)).toNat=a*b:=by rw [<-Int.natCast_mul];rfl
theorem qv3(r s:RD)(hr:Sz r)(hs:Sz s):Fun Tryz.prog 50 [rdD r,rdD s] [qas (r.val+s.val)] :=by
 have e:r.val+s.val=mkRat (sg r.neg (bv r.num)*dv s.den+sg s.neg (bv s.num)*dv r.den) (dv r.den*dv s.den):=by
  rw [qct,qct,Rat.mkRat_add_mkRat _ _ (qhb _) (qhb _)]
 have hb:=qtJ r s 112 113 (r.val+s.val) hr hs (fun h1 h2=>by
  have:=qzf (smN r) (smD r) (smN s) (smD s) (qiS h1) (qir h1) (qiS h2) (qir h2)
  rw [show (smD r*smD s).toNat=dv r.den*dv s.den by rw [qdB h1,qdB h2,toNat_mul]] at this
  rwa [e, <-qe3 h1, <-qe3 h2, <-qdB h1, <-qdB h2]) (by rw [e];exact qzj r s hr hs)
 refine qad (fun t=>t==4) mixed tOk Tryz.func50 rfl rfl ?_
 conv=>whnf
 refine qaa rfl rfl hb ?_
 conv=>whnf
 refine ⟨?_,trivial⟩
 conv=>whnf
 exact ⟨rfl,rfl,rfl,trivial⟩
theorem qzF(r s:RD)(hr:Sz r)(hs:Sz s):Fun Tryz.prog 14 [rdD r,rdD s] [qas (r.val*s.val)] :=by
 have e:r.val*s.val=mkRat (sg r.neg (bv r.num)*sg s.neg (bv s.num)) (dv r.den*dv s.den):=by
  rw [qct,qct,Rat.mkRat_mul_mkRat]
 have hb:=qtJ r s 62 64 (r.val*s.val) hr hs (fun h1 h2=>by
  have:=qzI (smN r) (smD r) (smN s) (smD s) (qiS h1) (qir h1) (qiS h2) (qir h2)
  rw [show (smD r*smD s).toNat=dv r.den*dv s.den by rw [qdB h1,qdB h2,toNat_mul]] at this
  rwa [e, <-qe3 h1, <-qe3 h2]) (by rw [e];exact qyC r s hr hs)
 refine qad (fun t=>t==4) mixed tOk Tryz.func14 rfl rfl ?_
 conv=>whnf
 refine qaa rfl rfl hb ?_
 conv=>whnf
 refine ⟨?_,trivial⟩
 conv=>whnf
 exact ⟨rfl,rfl,rfl,trivial⟩
theorem qqU(r s:RD):qdk r.val s.val=qgB (sg r.neg (bv r.num)*dv s.den) (sg s.neg (bv s.num)*dv r.den):=by
 rw [qed]
 unfold qte qgB
 rw [qct,qct]
 simp only [qjF (qhb _) (qhb _)]
theorem qfj(r s:RD)(hr:Sz r)(hs:Sz s):Fun Tryz.prog 17 [rdD r,rdD s] [i64 (qdk r.val s.val)] :=by
 have e:=qqU r s
 have hb:=qwE r s 71 72 (qdk r.val s.val) hr hs (fun h1 h2=>by
  have:=qy5 (smN r) (smD r) (smN s) (smD s) (qiS h1) (qir h1) (qiS h2) (qir h2)
  rwa [e, <-qe3 h1, <-qe3 h2, <-qdB h1, <-qdB h2]) (by rw [e];exact qyH r s hr hs)
 refine qad (fun t=>false) mixed tOk Tryz.func17 rfl rfl ?_
 conv=>whnf
 refine qaa rfl rfl hb ?_
 conv=>whnf
 refine ⟨?_,trivial⟩
 conv=>whnf
theorem qAY(r s:RD)(hr:Sz r)(hs:Sz s):Fun Tryz.prog 22 [rdD r,rdD s] [qas (r.val-s.val)] :=by
 have e:r.val+(⟨!s.neg,s.num,s.den⟩:RD).val=r.val-s.val:=by
  rw [Rat.sub_eq_add_neg]
  congr 1
  rw [qct,qct,Rat.neg_mkRat]
  congr 1
  unfold sg;cases s.neg<;>simp
 refine qad (fun t=>t==3||t==4) mixed tOk Tryz.func22 rfl rfl ?_
 conv=>whnf
 refine qa4 rfl rfl (qv3 r ⟨!s.neg,s.num,s.den⟩ hr hs) (by rw [qdQ];rfl) ?_
 conv=>whnf
 rw [e]
 refine ⟨?_,trivial⟩
 conv=>whnf
 exact ⟨rfl,rfl,rfl,trivial⟩
theorem qCk(r:RD)(hr:Sz r):Fun Tryz.prog 387 [rdD r] [qas (-r.val)] :=by
 have e:mkRat (sg (!r.neg) (bv r.num)) (bv (dn r.den))= -r.val:=by
  rw [qct,Rat.neg_mkRat,qgF]
  congr 1
  unfold sg;cases r.neg<;>simp
 obtain ⟨hr1,hr2⟩:=hr
 have z1:=qdc r.den
 refine qad (fun t=>t==1||t==2) mixed tOk Tryz.func387 rfl rfl ?_
 conv=>whnf
 refine qa4 rfl rfl (qgi ⟨!r.neg,r.num,r.den⟩ (by show r.den.size<_;omega)) (by rw [qdQ];rfl) ?_
 conv=>whnf
 refine qaa rfl rfl (qjt (!r.neg) r.num false (dn r.den) rfl (by rw [qgF];exact qhb _) (by omega) (by omega)) ?_
 conv=>whnf
 rw [e]
 refine ⟨?_,trivial⟩
 conv=>whnf
 exact ⟨rfl,rfl,rfl,trivial⟩
theorem qsI(r:RD)(hr:Sz r):Fun Tryz.prog 66 [ofD r] [qas r.val] :=by
 have z1:=qdc r.den
 obtain ⟨hr1,hr2⟩:=hr
 have:=qjt r.neg r.num false (dn r.den) rfl (by rw [qgF];exact qhb _) (by omega) (by omega)
 rwa [qgF] at this
theorem qt5(r:RD)(hr:Sz r):Fun Tryz.prog 16 [rdD r] [i64 (qfQ r.val)] :=by
 have e:qgB (sg r.neg (bv r.num)) (sg false (bv ⟨#[]⟩))=qfQ r.val:=by
  rw [qc8]
  unfold qgB qpp
  rw [qct]
  simp only [qpP (qhb _),qqF (qhb _)]
  rfl
 obtain ⟨hr1,hr2⟩:=hr
 refine qad (fun t=>false) mixed tOk Tryz.func16 rfl rfl ?_
 conv=>whnf
 refine qaa rfl rfl (qgi r (by omega)) ?_
 conv=>whnf
 refine qaa rfl rfl (qeq _ _ _ _ (by omega) (by decide)) ?_
 conv=>whnf
 refine ⟨?_,trivial⟩
 conv=>whnf
 exact e
theorem qpD(r s:RD):qdH [.v (.bool r.neg),.v (.string r.num),.v (.string r.den)] [.v (.bool s.neg),.v (.string s.num),.v (.string s.den)] =decide (r=s):=by
 obtain ⟨a,b,c⟩:=r
 obtain ⟨a',b',c'⟩:=s
 simp only [qdH,eqD,qbN,Bool.and_true,RD.mk.injEq]
 by_cases h1:a=a'<;>by_cases h2:b=b'<;>by_cases h3:c=c'<;>simp [eqV,h1,h2,h3,qbN]
theorem qwb(r:RD)(q:Rat):qdH [.v (.bool r.neg),.v (.string r.num),.v (.string r.den)] [.v (.bool (qel q)),.v (.string (qeC q)),.v (.string (qeB q))] =decide (r=canon q):=by
 unfold qel qeC qeB;exact qpD r (canon q)
@[irreducible] def okN(r:RD):Int:=if canon r.val=r then 0 else 1
theorem qlB(r:RD)(hr:Sz r):Fun Tryz.prog 88 [rdD r] [i64 (okN r)] :=by
 refine qad (fun t=>false) mixed tOk Tryz.func88 rfl rfl ?_
 conv=>whnf
 refine qab (qgi r (by have:=hr.2;omega)) ?_
 conv=>whnf
 refine qab (qsI r hr) ?_
 conv=>whnf
 refine qac (by kernel_rfl) ?_
 conv=>whnf
 have e:qdH (List.take qDi.cells (List.drop 0 (rdD r).cells)) [D.v (.bool (qel r.val)),.v (.string (qeC r.val)),.v (.string (qeB r.val))] =decide (r=canon r.val):=qwb r _
 rw [e]
 refine qby (fun h=> ?_) (fun h=> ?_)
 ·have h1: ¬canon r.val=r:=fun h'=>by rw [h'] at h;simp at h
  conv=>whnf
  refine ⟨?_,trivial⟩
  conv=>whnf
  unfold okN;rw [if_neg h1]
 ·have h1:canon r.val=r:=by
   have:r=canon r.val:=by simpa using h
   exact this.symm
  conv=>whnf
  refine ⟨?_,trivial⟩
  conv=>whnf
  unfold okN;rw [if_pos h1]
theorem qDV(n:Int)(h: -9223372036854775808<=n/\n<=9223372036854775807):Fun Tryz.prog 59 [i64 n] [qas (n:Rat)] :=by
 have hz:n.natAbs<256^8:=by have:(256:Nat)^8=18446744073709551616:=rfl;omega
 have hn:=qfg n 1 8 1 (by omega) hz (by decide) (by omega) (by omega)
 have e:mkRat n (Int.toNat 1)=(n:Rat):=by rw [Rat.mkRat_eq_div];show (n:Rat)/((1:Nat):Rat)=n;rw [Rat.natCast_ofNat];grind
 rw [e] at hn
 refine qad (fun t=>t==2) mixed tOk Tryz.func59 rfl rfl ?_
 conv=>whnf
 refine qaa rfl rfl (qtY n h) ?_
 conv=>whnf
 refine qaa rfl rfl (qtY 1 (by omega)) ?_
 conv=>whnf
 refine qaa rfl rfl hn ?_
 conv=>whnf
 refine ⟨?_,trivial⟩
 conv=>whnf
 exact ⟨rfl,rfl,rfl,trivial⟩
@[irreducible] def eN(b:Int):Int:=if b=0 then 10 else 0
@[irreducible] def eQ(q:Rat):Int:=if q=0 then 10 else 0
theorem qfX:canon 0=⟨false,emp,emp⟩:=by decide
theorem qdn:qel 0=false:=by unfold qel;rw [qfX]
theorem qdp:qeC 0=emp:=by unfold qeC;rw [qfX]
theorem qds:qeB 0=emp:=by unfold qeB;rw [qfX]
theorem qA7(a b:Int)(k l:Nat)(ha:a.natAbs<256^k)(hb:b.natAbs<256^l)(hk:k<500000000000)(hl:l<500000000000):
  Fun Tryz.prog 173 [zD a,zD b] [qas (Rat.divInt a b),i64 (eN b)] :=by
 have sa:=qiL ha
 have sb:=qiL hb
 have hc0:qgB (sg (ng b) (bv (nb b.natAbs))) (sg false (bv ⟨#[]⟩))=qgB b 0:=by rw [qlw];rfl
 refine qad (fun t=>t==2||t==3||t==4) mixed tOk Tryz.func173 rfl rfl ?_
 conv=>whnf
 refine qaa rfl rfl (qeq _ _ _ _ (by omega) (by decide)) ?_
 conv=>whnf
 rw [hc0]
 refine qa9 (fun h=> ?_) (fun h=> ?_)
 ·conv=>whnf
  have h0:b=0:=by unfold qgB at h;split at h<;>(try split at h)<;>omega
  subst h0
  refine ⟨?_, ?_,trivial⟩
  ·rw [Rat.divInt_zero]
   conv=>whnf
   rw [qdn,qdp,qds]
   exact ⟨rfl,rfl,rfl,trivial⟩
  ·conv=>whnf
   unfold eN;rfl
 ·conv=>whnf
  have h0:b≠0:=by rintro rfl;exact h rfl
  have he:eN b=0:=by unfold eN;rw [if_neg h0]
  refine qa9 (fun h2=> ?_) (fun h2=> ?_)
  ·conv=>whnf
   have hneg:b<0:=by unfold qgB at h2;split at h2<;>(try split at h2)<;>omega
   refine qab (qyW _ _ (by omega)) ?_
   conv=>whnf
   refine qab (qyW _ _ (by omega)) ?_
   conv=>whnf
   refine qac (by kernel_rfl) ?_
   conv=>whnf
   rw [qlw,qlw]
   refine qaa rfl rfl (qfg (-a) (-b) k l (by omega) (by omega) (by omega) hk hl) ?_
   conv=>whnf
   have e:mkRat (-a) (-b).toNat=Rat.divInt a b:=by
    rw [<-Rat.neg_divInt_neg, <-Rat.divInt_ofNat]
    congr 1;omega
   rw [e]
   refine ⟨?_, ?_,trivial⟩
   ·conv=>whnf
    exact ⟨rfl,rfl,rfl,trivial⟩
   ·conv=>whnf
    exact he.symm
  ·conv=>whnf
   have hpos:0<b:=by
    unfold qgB at h h2;split at h2
    ·omega
    ·split at h2<;>omega
   refine qaa rfl rfl (qfg a b k l hpos ha hb hk hl) ?_
   conv=>whnf
   have e:mkRat a b.toNat=Rat.divInt a b:=by
    rw [<-Rat.divInt_ofNat]
    congr 1;omega
   rw [e]
   refine ⟨?_, ?_,trivial⟩
   ·conv=>whnf
    exact ⟨rfl,rfl,rfl,trivial⟩
   ·conv=>whnf
    exact he.symm
theorem qE5{n:Int}(h: -9223372036854775808<=n/\n<=9223372036854775807):n.natAbs<256^8:=by have:(256:Nat)^8=18446744073709551616:=rfl;omega
theorem qwr(a b:Int)(ha: -9223372036854775808<=a/\a<=9223372036854775807)(hb: -9223372036854775808<=b/\b<=9223372036854775807):
  Fun Tryz.prog 360 [i64 a,i64 b] [qas (Rat.divInt a b),i64 (eN b)] :=by
 refine qad (fun t=>t==4) mixed tOk Tryz.func360 rfl rfl ?_
 conv=>whnf
 refine qaa rfl rfl (qtY a ha) ?_
 conv=>whnf
 refine qaa rfl rfl (qtY b hb) ?_
 conv=>whnf
 refine qaa rfl rfl (qA7 a b 8 8 (qE5 ha) (qE5 hb) (by omega) (by omega)) ?_
 conv=>whnf
 refine ⟨?_, ?_,trivial⟩
 ·conv=>whnf
  exact ⟨rfl,rfl,rfl,trivial⟩
 ·conv=>whnf
theorem qzw(r s:RD)(hr:Sz r)(hs:Sz s):Fun Tryz.prog 117 [rdD r,rdD s] [qas (r.val/s.val),i64 (eQ s.val)] :=by
 have z1:=qdc r.den
 have z2:=qdc s.den
 have e1:sg false (bv (dn r.den))=(dv r.den:Int):=by rw [qgF];rfl
 have e2:sg false (bv (dn s.den))=(dv s.den:Int):=by rw [qgF];rfl
 have k1:=qcu r.neg r.num
 have k2:=qcu s.neg s.num
 have k3:=qcu false (dn r.den)
 have k4:=qcu false (dn s.den)
 have m1:=qdC k1 k4
 have m3:=qdC k3 k2
 have p1:=qcm r.den
 have p2:=qcm s.den
 obtain ⟨hr1,hr2⟩:=hr
 obtain ⟨hs1,hs2⟩:=hs
 have ev:Rat.divInt (sg r.neg (bv r.num)*sg false (bv (dn s.den))) (sg false (bv (dn r.den))*sg s.neg (bv s.num))=r.val/s.val:=by
  rw [e1,e2,Rat.div_def,qct,qct, <-Rat.divInt_ofNat, <-Rat.divInt_ofNat,Rat.inv_divInt,Rat.divInt_mul_divInt]
 have ee:eN (sg false (bv (dn r.den))*sg s.neg (bv s.num))=eQ s.val:=by
  unfold eN eQ
  have:(sg false (bv (dn r.den))*sg s.neg (bv s.num)=0)=(s.val=0):=by
   rw [e1,qct,Rat.mkRat_eq_zero (qhb _),Int.mul_eq_zero]
   apply propext
   exact ⟨fun h=>h.resolve_left (by omega),fun h=> .inr h⟩
  simp only [this]
 refine qad (fun t=>t==4||t==6||t==7) mixed tOk Tryz.func117 rfl rfl ?_
 conv=>whnf
 refine qab (qgi r (by omega)) ?_
 conv=>whnf
 refine qab (qgi s (by omega)) ?_
 conv=>whnf
 refine qac (by kernel_rfl) ?_
 conv=>whnf
 refine qab (qjQ _ _ _ _ (by omega) (by omega)) ?_
 conv=>whnf
 refine qab (qjQ _ _ _ _ (by omega) (by omega)) ?_
 conv=>whnf
 refine qab (qA7 _ _ _ _ m1 m3 (by omega) (by omega)) ?_
 conv=>whnf
 refine qac (by kernel_rfl) ?_
 conv=>whnf
 rw [ev,ee]
 refine ⟨?_, ?_,trivial⟩
 ·conv=>whnf
  exact ⟨rfl,rfl,rfl,trivial⟩
 ·conv=>whnf
theorem qva{q:Rat}{n:Nat}(h:Bd n q)(hn:n<90000000000):Sz (canon q):=by
 unfold Sz canon
 have h1:q.num.natAbs<256^(n+1):=by
  have:=h.1
  have e:256^(n+1)=256^n*256:=Nat.pow_succ _ _
  have:0<256^n:=Nat.pow_pos (by omega)
  omega
 have h2:q.den<256^(n+1):=by
  have:=h.2
  have e:256^(n+1)=256^n*256:=Nat.pow_succ _ _
  have:0<256^n:=Nat.pow_pos (by omega)
  omega
 have:=qhp h1
 have:=qhp h2
 refine ⟨by simp only;omega, ?_⟩
 simp only
 split
 ·show (0:Nat)<_;omega
 ·omega
def Q(q:Rat):Prop:= ∃n,n<90000000000/\Bd n q
theorem Q.sz{q:Rat}(h:Q q):Sz (canon q):=by obtain ⟨n,h1,h2⟩:=h;exact qva h2 h1
theorem qrV{p q:Rat}(hp:Q p)(hq:Q q):Fun Tryz.prog 50 [qas p,qas q] [qas (p+q)] :=by
 have:=qv3 (canon p) (canon q) hp.sz hq.sz
 rwa [qar,qar, <-qaN, <-qaN] at this
theorem qsv{p q:Rat}(hp:Q p)(hq:Q q):Fun Tryz.prog 14 [qas p,qas q] [qas (p*q)] :=by
 have:=qzF (canon p) (canon q) hp.sz hq.sz
 rwa [qar,qar, <-qaN, <-qaN] at this
theorem qsX{p q:Rat}(hp:Q p)(hq:Q q):Fun Tryz.prog 22 [qas p,qas q] [qas (p-q)] :=by
 have:=qAY (canon p) (canon q) hp.sz hq.sz
 rwa [qar,qar, <-qaN, <-qaN] at this
theorem qs4{p q:Rat}(hp:Q p)(hq:Q q):Fun Tryz.prog 17 [qas p,qas q] [i64 (qdk p q)] :=by
 have:=qfj (canon p) (canon q) hp.sz hq.sz
 rwa [qar,qar, <-qaN, <-qaN] at this
theorem qim{p:Rat}(hp:Q p):Fun Tryz.prog 16 [qas p] [i64 (qfQ p)] :=by
 have:=qt5 (canon p) hp.sz
 rwa [qar, <-qaN] at this
theorem qvJ{p q:Rat}(hp:Q p)(hq:Q q):Fun Tryz.prog 117 [qas p,qas q] [qas (p/q),i64 (eQ q)] :=by
 have:=qzw (canon p) (canon q) hp.sz hq.sz
 rwa [qar,qar, <-qaN, <-qaN] at this
abbrev ptR(r s:RD):D:= .a [.v (.bool r.neg),.v (.string r.num),.v (.string r.den),.v (.bool s.neg),.v (.string s.num),.v (.string s.den)]
abbrev ptD(p q:Rat):D:= .a [.v (.bool (qel p)),.v (.string (qeC p)),.v (.string (qeB p)),.v (.bool (qel q)),.v (.string (qeC q)),.v (.string (qeB q))]
theorem qmG{x y u v z w:Rat}{f:FuncId}(h1:Fun Tryz.prog f [qas x,qas u] [qas z])(h2:Fun Tryz.prog f [qas y,qas v] [qas w]):
  Fun Tryz.prog 60 [ptD x y,ptD u v,.f f []] [ptD z w] :=by
 refine qad (fun t=>t==6) mixed tOk Tryz.func60 rfl rfl ?_
 conv=>whnf
 refine qab h1 ?_
 conv=>whnf
 refine qab h2 ?_
 conv=>whnf
 refine qac (by kernel_rfl) ?_
 conv=>whnf
 refine ⟨?_,trivial⟩
 conv=>whnf
 exact ⟨rfl,rfl,rfl,rfl,rfl,rfl,trivial⟩
theorem qrr{x y u v:Rat}(hx:Q x)(hy:Q y)(hu:Q u)(hv:Q v):Fun Tryz.prog 34 [ptD x y,ptD u v] [ptD (x+u) (y+v)] :=by
 refine qad (fun t=>t==4) mixed tOk Tryz.func34 rfl rfl ?_
 conv=>whnf
 refine qaa rfl rfl (qmG (qrV hx hu) (qrV hy hv)) ?_
 conv=>whnf
 refine ⟨?_,trivial⟩
 conv=>whnf
 exact ⟨rfl,rfl,rfl,rfl,rfl,rfl,trivial⟩
theorem qk6{x y u v:Rat}(hx:Q x)(hy:Q y)(hu:Q u)(hv:Q v):Fun Tryz.prog 13 [ptD x y,ptD u v] [ptD (x-u) (y-v)] :=by
 refine qad (fun t=>t==4) mixed tOk Tryz.func13 rfl rfl ?_
 conv=>whnf
 refine qaa rfl rfl (qmG (qsX hx hu) (qsX hy hv)) ?_
 conv=>whnf
 refine ⟨?_,trivial⟩
 conv=>whnf
 exact ⟨rfl,rfl,rfl,rfl,rfl,rfl,trivial⟩
theorem qin{x y u v:Rat}(hx:Q x)(hy:Q y)(hu:Q u)(hv:Q v):Fun Tryz.prog 108 [ptD x y,ptD u v] [i64 (if qdk x u=0 then qdk y v else qdk x u)] :=by
 refine qad (fun t=>false) mixed tOk Tryz.func108 rfl rfl ?_
 conv=>whnf
 refine qaa rfl rfl (qs4 hx hu) ?_
 conv=>whnf
 refine qav (fun h=> ?_) (fun h=> ?_)
 ·conv=>whnf
  rw [if_neg h]
  refine ⟨?_,trivial⟩
  conv=>whnf
 ·conv=>whnf
  rw [if_pos h]
  refine qaa rfl rfl (qs4 hy hv) ?_
  conv=>whnf
  refine ⟨?_,trivial⟩
  conv=>whnf
end Go.Nv
end
