import Derived.Test.YtlmmifgminkdkaaGreatNxD3
import Derived.Test.YtlmmifgminkdkaaGreatNxC3
set_option linter.all false
set_option maxRecDepth 100000
section
namespace Go.Nv
open Go.Proofs Nw
theorem qhL(x:Int):sg (ng x) x.natAbs=x:=by
 rw [qbo];unfold sg;by_cases h:x<0<;>simp [h] <;>omega
theorem ql5(x:Int):zD x=intD (ng x) (nb x.natAbs):=rfl
theorem qex(s:ByteArray):(nb (bv s)).size<=s.size:=by
 rw [qdg];exact qba (qaV _)
theorem qkZ(n:Bool)(s:ByteArray):(nb (sg n (bv s)).natAbs).size<=s.size:=by rw [qdU];exact qex s
theorem qm0(x:Int):Fun Tryz.prog 233 [zD x] [zD x] :=by
 have:=qcX (ng x) (nb x.natAbs)
 rwa [qbp,qhL] at this
theorem qzn(x:Int):Fun Tryz.prog 230 [zD x] [zD (-x)] :=by
 have:=quO (ng x) (nb x.natAbs)
 rwa [qbp,qhL] at this
theorem qmA(x:Int)(h:(nb x.natAbs).size<=7):Fun Tryz.prog 234 [zD x] [i64 x] :=by
 have:=qsp (ng x) (nb x.natAbs) h
 rwa [qbp,qhL] at this
theorem qlu{x:Int}(h:(nb x.natAbs).size<=7): -72057594037927936<x/\x<72057594037927936:=by
 have:=qgR (n:=ng x) h
 rwa [qbp,qhL] at this
theorem qzq{x y:Int}(g:ng x=ng y):zD (x+y)=intD (ng x) (nb (x.natAbs+y.natAbs)):=by
 rw [qbo,qbo,decide_eq_decide] at g
 rw [ql5,qbo,qbo,show (decide (x+y<0))=decide (x<0) by rw [decide_eq_decide];omega,show (x+y).natAbs=x.natAbs+y.natAbs by omega]
theorem qye{x y:Int}(g:ng x≠ng y)(g2:qcA x.natAbs y.natAbs=0):zD (x+y)=intD false (nb 0):=by
 rw [qbo,qbo,Ne,decide_eq_decide] at g
 have:x+y=0:=by unfold qcA at g2;repeat' split at g2<;>omega
 rw [this,ql5,qbo];rfl
theorem qE9{x y:Int}(g:ng x≠ng y)(g3:qcA x.natAbs y.natAbs>0):y.natAbs<x.natAbs/\zD (x+y)=intD (ng x) (nb (x.natAbs-y.natAbs)):=by
 rw [qbo,qbo,Ne,decide_eq_decide] at g
 have h:y.natAbs<x.natAbs:=by unfold qcA at g3;repeat' split at g3<;>omega
 refine ⟨h, ?_⟩
 rw [ql5,qbo,qbo,show (decide (x+y<0))=decide (x<0) by rw [decide_eq_decide];omega,show (x+y).natAbs=x.natAbs-y.natAbs by omega]
theorem qEI{x y:Int}(g:ng x≠ng y)(g2: ¬qcA x.natAbs y.natAbs=0)(g3: ¬qcA x.natAbs y.natAbs>0):x.natAbs<y.natAbs/\zD (x+y)=intD (ng y) (nb (y.natAbs-x.natAbs)):=by
 rw [qbo,qbo,Ne,decide_eq_decide] at g
 have h:x.natAbs<y.natAbs:=by
  unfold qcA at g2 g3
  split at g2<;>rename_i h1
  ·exact h1
  ·rw [if_neg h1] at g3;split at g2<;>omega
 refine ⟨h, ?_⟩
 rw [ql5,qbo,qbo,show (decide (x+y<0))=decide (y<0) by rw [decide_eq_decide];omega,show (x+y).natAbs=y.natAbs-x.natAbs by omega]
theorem qtE(n m:Bool)(s t:ByteArray)(hs:s.size<400000000000)(ht:t.size<400000000000):Fun Tryz.prog 226 [intD n s,intD m t] [zD (sg n (bv s)+sg m (bv t))] :=by
 have c1:=qcX n s
 have c2:=qcX m t
 have l1:=qkZ n s
 have l2:=qkZ m t
 generalize sg n (bv s)=x at*
 generalize sg m (bv t)=y at*
 refine qad (fun t=>t==2||t==3) mixed tOk Tryz.func226 rfl rfl ?_
 conv=>whnf
 refine qab c1 ?_
 conv=>whnf
 refine qab c2 ?_
 conv=>whnf
 refine qac (by kernel_rfl) ?_
 conv=>whnf
 refine qaf (fun h=> ?_) (fun h=> ?_)
 ·conv=>whnf
  refine qaf (fun h2=> ?_) (fun h2=> ?_)
  ·conv=>whnf
   refine qab (qmA x (by omega)) ?_
   conv=>whnf
   refine qab (qmA y (by omega)) ?_
   conv=>whnf
   have b1:=qlu (x:=x) (by omega)
   have b2:=qlu (x:=y) (by omega)
   refine qak (by omega) ?_
   conv=>whnf
   refine qab (qrT (x+y) (by omega)) ?_
   conv=>whnf
   refine qac (by kernel_rfl) ?_
   conv=>whnf
   exact ⟨⟨rfl,rfl,trivial⟩,trivial⟩
  ·conv=>whnf
   refine qa9 (fun g=> ?_) (fun g=> ?_)
   ·conv=>whnf
    refine qab (qhK x.natAbs y.natAbs (by omega) (by omega)) ?_
    conv=>whnf
    refine qac (by kernel_rfl) ?_
    conv=>whnf
    rw [qzq g]
    exact ⟨⟨rfl,rfl,trivial⟩,trivial⟩
   ·conv=>whnf
    refine qaa rfl rfl (qdS x.natAbs y.natAbs) ?_
    conv=>whnf
    refine qaf (fun g2=> ?_) (fun g2=> ?_)
    ·conv=>whnf
     rw [qye g g2]
     exact ⟨⟨rfl,rfl,trivial⟩,trivial⟩
    ·conv=>whnf
     refine qaf (fun g3=> ?_) (fun g3=> ?_)
     ·conv=>whnf
      obtain ⟨e1,e2⟩:=qE9 g g3
      refine qab (qbs x.natAbs y.natAbs (by omega) (by omega) (by omega)) ?_
      conv=>whnf
      refine qac (by kernel_rfl) ?_
      conv=>whnf
      rw [e2]
      exact ⟨⟨rfl,rfl,trivial⟩,trivial⟩
     ·conv=>whnf
      obtain ⟨e1,e2⟩:=qEI g g2 g3
      refine qab (qbs y.natAbs x.natAbs (by omega) (by omega) (by omega)) ?_
      conv=>whnf
      refine qac (by kernel_rfl) ?_
      conv=>whnf
      rw [e2]
      exact ⟨⟨rfl,rfl,trivial⟩,trivial⟩
 ·conv=>whnf
  refine qa9 (fun g=> ?_) (fun g=> ?_)
  ·conv=>whnf
   refine qab (qhK x.natAbs y.natAbs (by omega) (by omega)) ?_
   conv=>whnf
   refine qac (by kernel_rfl) ?_
   conv=>whnf
   rw [qzq g]
   exact ⟨⟨rfl,rfl,trivial⟩,trivial⟩
  ·conv=>whnf
   refine qaa rfl rfl (qdS x.natAbs y.natAbs) ?_
   conv=>whnf
   refine qaf (fun g2=> ?_) (fun g2=> ?_)
   ·conv=>whnf
    rw [qye g g2]
    exact ⟨⟨rfl,rfl,trivial⟩,trivial⟩
   ·conv=>whnf
    refine qaf (fun g3=> ?_) (fun g3=> ?_)
    ·conv=>whnf
     obtain ⟨e1,e2⟩:=qE9 g g3
     refine qab (qbs x.natAbs y.natAbs (by omega) (by omega) (by omega)) ?_
     conv=>whnf
     refine qac (by kernel_rfl) ?_
     conv=>whnf
     rw [e2]
     exact ⟨⟨rfl,rfl,trivial⟩,trivial⟩
    ·conv=>whnf
     obtain ⟨e1,e2⟩:=qEI g g2 g3
     refine qab (qbs y.natAbs x.natAbs (by omega) (by omega) (by omega)) ?_
     conv=>whnf
     refine qac (by kernel_rfl) ?_
     conv=>whnf
     rw [e2]
     exact ⟨⟨rfl,rfl,trivial⟩,trivial⟩
theorem qtL(x y:Int)(hx:(nb x.natAbs).size<400000000000)(hy:(nb y.natAbs).size<400000000000):Fun Tryz.prog 226 [zD x,zD y] [zD (x+y)] :=by
 have:=qtE (ng x) (ng y) (nb x.natAbs) (nb y.natAbs) hx hy
 rwa [qbp,qbp,qhL,qhL] at this
theorem quJ(x y:Int)(hx:(nb x.natAbs).size<400000000000)(hy:(nb y.natAbs).size<400000000000):Fun Tryz.prog 322 [zD x,zD y] [zD (x-y)] :=by
 refine qad (fun t=>false) mixed tOk Tryz.func322 rfl rfl ?_
 conv=>whnf
 refine qab (qzn y) ?_
 conv=>whnf
 refine qab (qtL x (-y) hx (by rw [Int.natAbs_neg];exact hy)) ?_
 conv=>whnf
 refine qac (by kernel_rfl) ?_
 conv=>whnf
 rw [<-Int.sub_eq_add_neg]
 exact ⟨⟨rfl,rfl,trivial⟩,trivial⟩
theorem qy3(x y:Int)(hx:x≠0)(hy:y≠0):zD (x*y)=intD (bz (ng x !=ng y)) (nb (x.natAbs*y.natAbs)):=by
 rw [ql5,qaH,qbo,qbo,qbo,Int.natAbs_mul]
 have e:decide (x*y<0)=(decide (x<0) !=decide (y<0)):=by
  rcases Int.lt_trichotomy x 0 with h|h|h<;>rcases Int.lt_trichotomy y 0 with h'|h'|h'
  ·have:=Int.mul_pos_of_neg_of_neg h h'
   simp [h,h'];omega
  ·omega
  ·have:=Int.mul_neg_of_neg_of_pos h h'
   simp [h,this];omega
  ·omega
  ·omega
  ·omega
  ·have:=Int.mul_neg_of_pos_of_neg h h'
   simp [h',this];omega
  ·omega
  ·have:=Int.mul_pos h h'
   have a1: ¬x<0:=by omega
   have a2: ¬y<0:=by omega
   have a3: ¬x*y<0:=by omega
   simp [a1,a2,a3]
 rw [e]
theorem qh6:zD 0=intD false ⟨#[]⟩:=by rw [ql5,qbo];rfl
theorem quF(x:Int):x.natAbs<256^(nb x.natAbs).size:=by
 have:=qaV (nbl x.natAbs)
 rwa [qcs, <-qdg] at this
theorem qpG{x y:Int}(h:(nb x.natAbs).size+(nb y.natAbs).size<=7): -72057594037927936<x*y/\x*y<72057594037927936:=by
 have h1:=Nat.mul_lt_mul'' (quF x) (quF y)
 rw [<-Nat.pow_add, <-Int.natAbs_mul] at h1
 have h2:=Nat.pow_le_pow_right (n:=256) (by omega) h
 have h3:(256:Nat)^7=72057594037927936:=rfl
 omega
theorem qq6(a b:Nat)(ha:(nb a).size<1000000000000)(hb:(nb b).size<1000000000000):Fun Tryz.prog 235 [.v (.string (nb a)),.v (.string (nb b))] [.v (.string (nb (a*b)))] :=by
 have:=qrh (nb a) (nb b) ha hb
 rwa [qbp,qbp] at this
theorem qxZ(n m:Bool)(s t:ByteArray)(hs:s.size<400000000000)(ht:t.size<400000000000):Fun Tryz.prog 163 [intD n s,intD m t] [zD (sg n (bv s)*sg m (bv t))] :=by
 have c1:=qcX n s
 have c2:=qcX m t
 have l1:=qkZ n s
 have l2:=qkZ m t
 generalize sg n (bv s)=x at*
 generalize sg m (bv t)=y at*
 refine qad (fun t=>t==2||t==3) mixed tOk Tryz.func163 rfl rfl ?_
 conv=>whnf
 refine qab c1 ?_
 conv=>whnf
 refine qab c2 ?_
 conv=>whnf
 refine qac (by kernel_rfl) ?_
 conv=>whnf
 refine qby (fun h=> ?_) (fun h=> ?_)
 ·rw [qc6,decide_eq_true_eq] at h
  have h0:x=0:=by omega
  subst h0
  conv=>whnf
  rw [Int.zero_mul,qh6]
  exact ⟨⟨rfl,rfl,trivial⟩,trivial⟩
 ·rw [qc6,decide_eq_false_iff_not] at h
  conv=>whnf
  refine qby (fun h2=> ?_) (fun h2=> ?_)
  ·rw [qc6,decide_eq_true_eq] at h2
   have h0:y=0:=by omega
   subst h0
   conv=>whnf
   rw [Int.mul_zero,qh6]
   exact ⟨⟨rfl,rfl,trivial⟩,trivial⟩
  ·rw [qc6,decide_eq_false_iff_not] at h2
   conv=>whnf
   refine qak (by omega) ?_
   conv=>whnf
   refine qaf (fun h3=> ?_) (fun h3=> ?_)
   ·conv=>whnf
    refine qab (qmA x (by omega)) ?_
    conv=>whnf
    refine qab (qmA y (by omega)) ?_
    conv=>whnf
    have hp:=qpG (x:=x) (y:=y) (by omega)
    refine qak (by omega) ?_
    conv=>whnf
    refine qab (qrT (x*y) (by omega)) ?_
    conv=>whnf
    refine qac (by kernel_rfl) ?_
    conv=>whnf
    exact ⟨⟨rfl,rfl,trivial⟩,trivial⟩
   ·conv=>whnf
    refine qab (qq6 x.natAbs y.natAbs (by omega) (by omega)) ?_
    conv=>whnf
    refine qac (by kernel_rfl) ?_
    conv=>whnf
    rw [qy3 x y (by omega) (by omega)]
    exact ⟨⟨rfl,rfl,trivial⟩,trivial⟩
theorem qvt(n m:Bool)(s t:ByteArray):Fun Tryz.prog 239 [intD n s,intD m t] [i64 (qgB (sg n (bv s)) (sg m (bv t)))] :=by
 have c1:=qcX n s
 have c2:=qcX m t
 generalize sg n (bv s)=x at*
 generalize sg m (bv t)=y at*
 refine qad (fun t=>t==2||t==3) mixed tOk Tryz.func239 rfl rfl ?_
 conv=>whnf
 refine qab c1 ?_
 conv=>whnf
 refine qab c2 ?_
 conv=>whnf
 refine qac (by kernel_rfl) ?_
 conv=>whnf
 rw [show qgB x y=(if ng x≠ng y then (if ng x then-1 else 1) else if ng x then qcA y.natAbs x.natAbs else qcA x.natAbs y.natAbs) by
  rw [qbo,qbo];unfold qgB qcA;simp only [Ne,decide_eq_decide,decide_eq_true_eq];repeat' split
  all_goals omega]
 refine qav (fun h=> ?_) (fun h=> ?_)
 ·conv=>whnf
  rw [if_pos h]
  refine qal (fun h2=> ?_) (fun h2=> ?_)
  ·conv=>whnf
   refine ⟨?_,trivial⟩
   conv=>whnf
   rw [if_pos h2]
  ·conv=>whnf
   refine ⟨?_,trivial⟩
   conv=>whnf
   rw [if_neg (by rw [h2];simp)]
 ·conv=>whnf
  rw [if_neg (fun hh=>hh h)]
  refine qal (fun h2=> ?_) (fun h2=> ?_)
  ·conv=>whnf
   refine qaa rfl rfl (qdS y.natAbs x.natAbs) ?_
   conv=>whnf
   refine ⟨?_,trivial⟩
   conv=>whnf
   rw [if_pos h2]
  ·conv=>whnf
   refine qaa rfl rfl (qdS x.natAbs y.natAbs) ?_
   conv=>whnf
   refine ⟨?_,trivial⟩
   conv=>whnf
   rw [if_neg (by rw [h2];simp)]
theorem qgQ(a:Nat)(h:(nb a).size<=7):Fun Tryz.prog 321 [.v (.string (nb a))] [i64 (a:Nat)] :=by
 have:=qjq (nb a) h
 rwa [qbp] at this
theorem qfD(a b:Nat)(ha:(nb a).size<1000000000000)(hb:(nb b).size<400000000000)(h0:b≠0):Fun Tryz.prog 320 [.v (.string (nb a)),.v (.string (nb b))] [.v (.string (nb (a/b))),.v (.string (nb (a%b)))] :=by
 have:=qqj (nb a) b ha hb h0
 rwa [qbp] at this
theorem qb2(a:Nat):zD (a:Int)=intD false (nb a):=by
 rw [ql5,qbo,show decide ((a:Int)<0)=false by simp];rfl
theorem qjP{a:Nat}(h:(nb a).size<=7):a<72057594037927936:=by
 have:=qlu (x:=(a:Int)) (by simpa using h)
 omega
theorem qsd(a:Nat)(h:a<=9223372036854775807):Fun Tryz.prog 229 [i64 (a:Int)] [intD false (nb a)] :=by
 have:=qrT (a:Int) (by omega)
 rwa [qb2] at this
theorem qeP{a b:Nat}(h:a<=b):(nb a).size<=(nb b).size:=by
 rcases Nat.lt_or_ge (nb b).size (nb a).size with h1|h1
 ·have:=qvu h1;omega
 ·exact h1
theorem qto(x:Int)(b:Nat)(h0:b≠0):(0<=x->x/(b:Int)=((x.natAbs/b:Nat):Int)/\x%(b:Int)=((x.natAbs%b:Nat):Int))/\
  (x<0->x.natAbs%b=0->x/(b:Int)= -((x.natAbs/b:Nat):Int)/\x%(b:Int)=0)/\
  (x<0->x.natAbs%b≠0->x/(b:Int)= -((x.natAbs/b:Nat):Int)-1/\x%(b:Int)=(b:Int)-((x.natAbs%b:Nat):Int)):=by
 have e:=Nat.div_add_mod x.natAbs b
 have l:=Nat.mod_lt x.natAbs (show 0<b by omega)
 have hb:(0:Int)<b:=by omega
 have e':(b:Int)*((x.natAbs/b:Nat):Int)+((x.natAbs%b:Nat):Int)=x.natAbs:=by rw [<-Int.natCast_mul, <-Int.natCast_add,e]
 generalize x.natAbs/b=q at*
 generalize x.natAbs%b=r at*
 refine ⟨fun h=> ?_,fun h h2=> ?_,fun h h2=> ?_⟩
 ·rw [Int.ediv_emod_unique hb];omega
 ·rw [Int.ediv_emod_unique hb,Int.mul_neg];omega
 ·rw [Int.ediv_emod_unique hb,Int.mul_sub,Int.mul_neg];omega
set_option maxHeartbeats 2000000 in
theorem quU(x:Int)(b:Nat)(hx:(nb x.natAbs).size<300000000000)(hb:(nb b).size<300000000000)(h0:b≠0):Fun Tryz.prog 232 [zD x,zD (b:Int)] [zD (x/(b:Int)),zD (x%(b:Int)),i64 0] :=by
 have c1:=qm0 x
 have c2:=qm0 (b:Int)
 rw [qb2] at*
 refine qad (fun t=>t==2||t==3) mixed tOk Tryz.func232 rfl rfl ?_
 conv=>whnf
 refine qab c1 ?_
 conv=>whnf
 refine qab c2 ?_
 conv=>whnf
 refine qac (by kernel_rfl) ?_
 conv=>whnf
 have n1:=quO false (nb (x.natAbs/b))
 rw [qbp,show sg false (x.natAbs/b)=((x.natAbs/b:Nat):Int) from rfl] at n1
 have n2:=qrT 1 (by omega)
 have m1:(nb (x.natAbs/b)).size<=(nb x.natAbs).size:=qeP (Nat.div_le_self _ _)
 have m2:(nb (x.natAbs%b)).size<=(nb b).size:=qeP (Nat.le_of_lt (Nat.mod_lt _ (by omega)))
 have n3:=quJ (-((x.natAbs/b:Nat):Int)) 1 (by rw [Int.natAbs_neg,Int.natAbs_natCast];omega) (by decide)
 have n4:=quJ (b:Int) ((x.natAbs%b:Nat):Int) (by rw [Int.natAbs_natCast];omega) (by rw [Int.natAbs_natCast];omega)
 rw [qb2,qb2] at n4
 obtain ⟨z1,z2,z3⟩:=qto x b h0
 refine qby (fun h=> ?_) (fun h=> ?_)
 ·rw [qc6,decide_eq_true_eq] at h
  exact absurd h h0
 ·conv=>whnf
  refine qaf (fun h1=> ?_) (fun h1=> ?_)
  ·conv=>whnf
   refine qaf (fun h2=> ?_) (fun h2=> ?_)
   ·conv=>whnf
    refine qab (qgQ x.natAbs (by omega)) ?_
    conv=>whnf
    refine qab (qgQ b (by omega)) ?_
    conv=>whnf
    refine qac (by kernel_rfl) ?_
    conv=>whnf
    have b1:=qjP (a:=x.natAbs) (by omega)
    have b2:=qjP (a:=b) (by omega)
    have q1:Int.tdiv (x.natAbs:Int) (b:Int)=((x.natAbs/b:Nat):Int):=rfl
    have q2:Int.tmod (x.natAbs:Int) (b:Int)=((x.natAbs%b:Nat):Int):=rfl
    have q3:=Nat.div_le_self x.natAbs b
    have q4:=Nat.mod_lt x.natAbs (show 0<b by omega)
    have q5:(0:Int)<=((x.natAbs/b:Nat):Int):=Int.natCast_nonneg _
    rw [q1]
    refine qcU (by omega) (by omega) ?_
    conv=>whnf
    refine qab (qsd (x.natAbs/b) (by omega)) ?_
    conv=>whnf
    rw [q2]
    refine qak (by omega) ?_
    conv=>whnf
    refine qab (qsd (x.natAbs%b) (by omega)) ?_
    conv=>whnf
    refine qac (by kernel_rfl) ?_
    conv=>whnf
    refine qav (fun g=> ?_) (fun g=> ?_)
    ·conv=>whnf
     have hx0:x<0:=by rw [qbo] at g;simpa using g
     refine qaa rfl rfl n1 ?_
     conv=>whnf
     refine qby (fun g2=> ?_) (fun g2=> ?_)
     ·conv=>whnf
      rw [qc6] at g2
      obtain ⟨y1,y2⟩:=z3 hx0 (by simpa using g2)
      rw [y1,y2]
      refine qab n2 ?_
      conv=>whnf
      refine qab n3 ?_
      conv=>whnf
      refine qac (by kernel_rfl) ?_
      conv=>whnf
      refine qaa rfl rfl n4 ?_
      conv=>whnf
      refine qac (by kernel_rfl) ?_
      conv=>whnf
      exact ⟨⟨rfl,rfl,trivial⟩,⟨rfl,rfl,trivial⟩,rfl,trivial⟩
     ·conv=>whnf
      rw [qc6] at g2
      have r0:x.natAbs%b=0:=by simpa using g2
      obtain ⟨y1,y2⟩:=z2 hx0 r0
      rw [y1,y2,qh6,r0,qfU]
      refine qac (by kernel_rfl) ?_
      conv=>whnf
      exact ⟨⟨rfl,rfl,trivial⟩,⟨rfl,rfl,trivial⟩,rfl,trivial⟩
    ·conv=>whnf
     have hx0:0<=x:=by rw [qbo] at g;simpa using g
     obtain ⟨y1,y2⟩:=z1 hx0
     rw [y1,y2,qb2,qb2]
     refine qac (by kernel_rfl) ?_
     conv=>whnf
     exact ⟨⟨rfl,rfl,trivial⟩,⟨rfl,rfl,trivial⟩,rfl,trivial⟩
   ·conv=>whnf
    refine qaa rfl rfl (qfD x.natAbs b (by omega) (by omega) h0) ?_
    conv=>whnf
    refine qav (fun g=> ?_) (fun g=> ?_)
    ·conv=>whnf
     have hx0:x<0:=by rw [qbo] at g;simpa using g
     refine qaa rfl rfl n1 ?_
     conv=>whnf
     refine qby (fun g2=> ?_) (fun g2=> ?_)
     ·conv=>whnf
      rw [qc6] at g2
      obtain ⟨y1,y2⟩:=z3 hx0 (by simpa using g2)
      rw [y1,y2]
      refine qab n2 ?_
      conv=>whnf
      refine qab n3 ?_
      conv=>whnf
      refine qac (by kernel_rfl) ?_
      conv=>whnf
      refine qaa rfl rfl n4 ?_
      conv=>whnf
      refine qac (by kernel_rfl) ?_
      conv=>whnf
      exact ⟨⟨rfl,rfl,trivial⟩,⟨rfl,rfl,trivial⟩,rfl,trivial⟩
     ·conv=>whnf
      rw [qc6] at g2
      have r0:x.natAbs%b=0:=by simpa using g2
      obtain ⟨y1,y2⟩:=z2 hx0 r0
      rw [y1,y2,qh6,r0,qfU]
      refine qac (by kernel_rfl) ?_
      conv=>whnf
      exact ⟨⟨rfl,rfl,trivial⟩,⟨rfl,rfl,trivial⟩,rfl,trivial⟩
    ·conv=>whnf
     have hx0:0<=x:=by rw [qbo] at g;simpa using g
     obtain ⟨y1,y2⟩:=z1 hx0
     rw [y1,y2,qb2,qb2]
     refine qac (by kernel_rfl) ?_
     conv=>whnf
     exact ⟨⟨rfl,rfl,trivial⟩,⟨rfl,rfl,trivial⟩,rfl,trivial⟩
  ·conv=>whnf
   refine qaa rfl rfl (qfD x.natAbs b (by omega) (by omega) h0) ?_
   conv=>whnf
   refine qav (fun g=> ?_) (fun g=> ?_)
   ·conv=>whnf
    have hx0:x<0:=by rw [qbo] at g;simpa using g
    refine qaa rfl rfl n1 ?_
    conv=>whnf
    refine qby (fun g2=> ?_) (fun g2=> ?_)
    ·conv=>whnf
     rw [qc6] at g2
     obtain ⟨y1,y2⟩:=z3 hx0 (by simpa using g2)
     rw [y1,y2]
     refine qab n2 ?_
     conv=>whnf
     refine qab n3 ?_
     conv=>whnf
     refine qac (by kernel_rfl) ?_
     conv=>whnf
     refine qaa rfl rfl n4 ?_
     conv=>whnf
     refine qac (by kernel_rfl) ?_
     conv=>whnf
     exact ⟨⟨rfl,rfl,trivial⟩,⟨rfl,rfl,trivial⟩,rfl,trivial⟩
    ·conv=>whnf
     rw [qc6] at g2
     have r0:x.natAbs%b=0:=by simpa using g2
     obtain ⟨y1,y2⟩:=z2 hx0 r0
     rw [y1,y2,qh6,r0,qfU]
     refine qac (by kernel_rfl) ?_
     conv=>whnf
     exact ⟨⟨rfl,rfl,trivial⟩,⟨rfl,rfl,trivial⟩,rfl,trivial⟩
   ·conv=>whnf
    have hx0:0<=x:=by rw [qbo] at g;simpa using g
    obtain ⟨y1,y2⟩:=z1 hx0
    rw [y1,y2,qb2,qb2]
    refine qac (by kernel_rfl) ?_
    conv=>whnf
    exact ⟨⟨rfl,rfl,trivial⟩,⟨rfl,rfl,trivial⟩,rfl,trivial⟩
theorem qx9(n m:Bool)(s t:ByteArray)(hs:s.size<300000000000)(ht:t.size<300000000000)(h0:bv t≠0):Fun Tryz.prog 231 [intD n s,intD m t] [zD ((Nat.gcd (bv s) (bv t):Nat):Int)] :=by
 have l1:=qex s
 have l2:=qex t
 have c1:=qdG s
 have c2:=qdG t
 generalize bv s=x at*
 generalize bv t=y at*
 rw [qb2]
 refine qad (fun t=>false) mixed tOk Tryz.func231 rfl rfl ?_
 conv=>whnf
 refine qab c1 ?_
 conv=>whnf
 refine qab c2 ?_
 conv=>whnf
 refine qac (by kernel_rfl) ?_
 conv=>whnf
 refine qah (fun t=>false) (fun z:Nat×Nat=>⟨fr 53 [(4,.ptr 0 0 0),(5,.d (.v (.string (nb z.1)))),(6,.d (.v (.string (nb z.2))))], [.box 96 [.d (.v (.bool false)),.d (.v (.string ⟨#[]⟩))]]⟩) (fun z=>Nat.gcd z.1 z.2=Nat.gcd x y/\(nb z.1).size<300000000000/\(nb z.2).size<300000000000/\(z.1≠0\/z.2≠0)) (fun z=>z.2) (x,y) mixed tOk ⟨rfl,by simp only;omega,by simp only;omega,.inr h0⟩ ?_ ?_
 ·refine qag ⟨⟨rfl,rfl,rfl,trivial⟩,trivial⟩ ⟨rfl,rfl,rfl,trivial⟩
 ·rintro ⟨a,b⟩ ⟨i1,i2,i3,i4⟩
  simp only at i1 i2 i3 i4 ⊢
  conv=>whnf
  refine qby (fun h=> ?_) (fun h=> ?_)
  ·have hb:b≠0:=by rw [qc6] at h;simpa using h
   conv=>whnf
   refine qaf (fun h2=> ?_) (fun h2=> ?_)
   ·conv=>whnf
    refine qaa rfl rfl (qfD a b (by omega) (by omega) hb) ?_
    conv=>whnf
    refine ⟨(b,a%b),⟨by simp only;rw [Nat.gcd_comm, <-Nat.gcd_rec,Nat.gcd_comm];exact i1,by simp only;omega,by simp only;have:=qeP (Nat.le_of_lt (Nat.mod_lt a (show 0<b by omega)));omega,.inl hb⟩,by simp only;exact Nat.mod_lt a (by omega),qag ⟨⟨rfl,rfl,rfl,trivial⟩,trivial⟩ ⟨rfl,rfl,rfl,trivial⟩⟩
   ·conv=>whnf
    refine qaf (fun h3=> ?_) (fun h3=> ?_)
    ·conv=>whnf
     refine qaa rfl rfl (qfD a b (by omega) (by omega) hb) ?_
     conv=>whnf
     refine ⟨(b,a%b),⟨by simp only;rw [Nat.gcd_comm, <-Nat.gcd_rec,Nat.gcd_comm];exact i1,by simp only;omega,by simp only;have:=qeP (Nat.le_of_lt (Nat.mod_lt a (show 0<b by omega)));omega,.inl hb⟩,by simp only;exact Nat.mod_lt a (by omega),qag ⟨⟨rfl,rfl,rfl,trivial⟩,trivial⟩ ⟨rfl,rfl,rfl,trivial⟩⟩
    ·conv=>whnf
     refine qa1 (by rw [qc6];simpa using hb) ?_
     conv=>whnf
     refine qaa rfl rfl (qgQ a (by omega)) ?_
     conv=>whnf
     refine qaa rfl rfl (qgQ b (by omega)) ?_
     conv=>whnf
     have a1:=qjP (a:=a) (by omega)
     have a2:=qjP (a:=b) (by omega)
     refine qah (fun t=>false) (fun z:Nat×Nat=>⟨fr 53 [(4,.ptr 0 0 0),(9,.d (i64 (z.1:Int))),(10,.d (i64 (z.2:Int)))], [.box 96 [.d (.v (.bool false)),.d (.v (.string ⟨#[]⟩))]]⟩) (fun z=>Nat.gcd z.1 z.2=Nat.gcd x y/\z.1<72057594037927936/\z.2<72057594037927936) (fun z=>z.2) (a,b) mixed tOk ⟨i1,a1,a2⟩ ?_ ?_
     ·refine qag ⟨⟨rfl,rfl,rfl,trivial⟩,trivial⟩ ⟨rfl,rfl,rfl,trivial⟩
     ·rintro ⟨c,d⟩ ⟨j1,j2,j3⟩
      simp only at j1 j2 j3 ⊢
      conv=>whnf
      refine qaf (fun g=> ?_) (fun g=> ?_)
      ·conv=>whnf
       have r1:Int.tmod (c:Int) (d:Int)=((c%d:Nat):Int):=rfl
       rw [r1]
       have r2:=Nat.mod_lt c (show 0<d by omega)
       refine qak (by omega) ?_
       conv=>whnf
       refine qac (by kernel_rfl) ?_
       conv=>whnf
       refine ⟨(d,c%d),⟨by simp only;rw [Nat.gcd_comm, <-Nat.gcd_rec,Nat.gcd_comm];exact j1,by simp only;omega,by simp only;omega⟩,by simp only;omega,qag ⟨⟨rfl,rfl,rfl,trivial⟩,trivial⟩ ⟨rfl,rfl,rfl,trivial⟩⟩
      ·have d0:d=0:=by omega
       subst d0
       conv=>whnf
       refine qaa rfl rfl (qsd c (by omega)) ?_
       conv=>whnf
       rw [<-j1,Nat.gcd_zero_right]
       exact ⟨⟨rfl,rfl,trivial⟩,trivial⟩
  ·have hb:b=0:=by rw [qc6] at h;simpa using h
   subst hb
   conv=>whnf
   refine qjr (by rw [qc6];rfl) ?_
   conv=>whnf
   rw [<-i1,Nat.gcd_zero_right]
   exact ⟨⟨rfl,rfl,trivial⟩,trivial⟩
theorem qku(s:ByteArray)(hs:s.size<=7):Fun Tryz.prog 227 [.v (.string s)] [i64 (bv s)] :=by
 refine qad (fun t=>false) mixed tOk Tryz.func227 rfl rfl ?_
 conv=>whnf
 refine qah (fun t=>false) (fun i:Nat=>⟨fr 19 [(0,.d (.v (.string s))),(2,.d (i64 0)),(3,.d (i64 (pre s i))),(4,.d (i64 i))], []⟩) (fun i=>i<=s.size) (fun i=>s.size-i) 0 mixed tOk (Nat.zero_le _) ?_ ?_
 ·refine qag trivial ⟨rfl,rfl, ?_,rfl,trivial⟩
  conv=>whnf
  rw [qfs];rfl
 ·intro i hi
  conv=>whnf
  refine qaf (fun h2=> ?_) (fun h2=> ?_)<;>conv=>whnf
  ·obtain ⟨p1,p2⟩:=qer s i (by omega)
   have hp:=p54 (s:=s) (i:=i) (by omega) hs
   refine qak (by omega) ?_
   conv=>whnf
   refine qak (by omega) ?_
   conv=>whnf
   generalize s.data.toList[i]'_=b at p1 p2
   have hb:=b.toNat_lt
   refine qak (by rw [p1];omega) ?_
   conv=>whnf
   refine qak (by rw [p1];omega) ?_
   conv=>whnf
   refine qak (by omega) ?_
   conv=>whnf
   refine ⟨i+1,by omega,by omega,qag trivial ⟨rfl,rfl, ?_,rfl,trivial⟩⟩
   conv=>whnf
   rw [p1,p2]
   omega
  ·have hi2:i=s.size:=by omega
   refine ⟨?_,trivial⟩
   conv=>whnf
   rw [hi2,qeY]
theorem qFk(n j:Nat)(hj:j<=7):Int.fdiv (n:Int) (2^min (((8*(j:Int))).toNat) IntKind.i64.bits)=((n/256^j:Nat):Int):=by
 have e:min (((8*(j:Int))).toNat) IntKind.i64.bits=8*j:=by
  show min _ 64=_
  omega
 rw [e,Int.fdiv_eq_ediv_of_nonneg _ (by exact Int.le_of_lt (Int.pow_pos (by omega)))]
 rw [show (256:Nat)=2^8 from rfl, <-Nat.pow_mul]
 push_cast;rfl
theorem qfL(n:Nat)(h:n<72057594037927936):Fun Tryz.prog 228 [i64 (n:Int)] [.v (.string (nb n))] :=by
 refine qad (fun t=>false) mixed tOk Tryz.func228 rfl rfl ?_
 conv=>whnf
 refine qah (fun t=>false) (fun j:Nat=>⟨fr 30 [(0,.d (i64 (n:Int))),(3,.own 0 0),(4,.d (i64 (8*(j:Int)-8)))], [.row 0 5 1 1 (by8 (nbl (n/256^j)))]⟩) (fun j=>j<=7) (fun j=>j) 7 mixed tOk (by omega) ?_ ?_
 ·have e:n/256^7=0:=Nat.div_eq_of_lt h
  rw [e,qaQ]
  exact qag ⟨⟨rfl,rfl,rfl,rfl,by unfold by8;rfl⟩,trivial⟩ ⟨rfl,trivial,rfl,trivial⟩
 ·intro j hj
  rcases j with _|i
  ·conv=>whnf
   refine qaU (by omega) ?_
   conv=>whnf
   refine qaA (qf4 _) ?_
   conv=>whnf
   refine ⟨?_,trivial⟩
   conv=>whnf
   rw [Nat.pow_zero,Nat.div_one,qlA]
   rfl
  ·rw [show 8*((i+1:Nat):Int)-8=8*(i:Int) by omega]
   have hl8:=qcC (nbl (n/256^(i+1)))
   have hsh:=qFk n i (by omega)
   have hsz:=qba (n:=n/256^(i+1)) (k:=7) (Nat.lt_of_le_of_lt (Nat.div_le_self _ _) (by have:(256:Nat)^7=72057594037927936:=rfl;omega))
   have hdd:n/256^i/256=n/256^(i+1):=by rw [Nat.div_div_eq_div_mul, <-Nat.pow_succ]
   have hle:n/256^i<=n:=Nat.div_le_self _ _
   have htm:Int.tmod ((n/256^i:Nat):Int) 256=((n/256^i%256:Nat):Int):=rfl
   conv=>whnf
   refine qaI (by omega) ?_
   conv=>whnf
   refine qak (by omega) ?_
   conv=>whnf
   rw [hsh]
   refine qak (by omega) ?_
   conv=>whnf
   rw [htm]
   generalize hN:n/256^i=N at*
   have hz:N/256=0\/N≠0:=by omega
   refine qaf (fun g=> ?_) (fun g=> ?_)
   ·have hN0:N≠0:=by omega
    conv=>whnf
    refine qak (by omega) ?_
    conv=>whnf
    rw [hsh]
    conv=>whnf
    refine qca (qcf _) (by intro x hx;simp at hx;subst hx;rfl) (by simp only [maxLen,List.length_cons,List.length_nil];omega) ?_
    conv=>whnf
    refine qak (by omega) ?_
    conv=>whnf
    refine ⟨i,by omega,by omega,qag ⟨⟨rfl,rfl,rfl,rfl, ?_⟩,trivial⟩ ⟨rfl,trivial, ?_,trivial⟩⟩
    ·rw [hN,qbM hN0,hdd, <-qlT]
     congr 1
     have e9:((N:Int))%256=((UInt8.ofNat (N%256)).toNat:Int):=by simp only [UInt8.toNat_ofNat'];omega
     unfold by8
     simp only [List.map_cons,List.map_nil]
     rw [e9]
    ·conv=>whnf
   ·conv=>whnf
    refine qaf (fun g2=> ?_) (fun g2=> ?_)
    ·have hN0:N≠0:=by
      intro hh
      have hq:n/256^(i+1)=0:=by rw [<-hdd,hh]
      rw [hl8,hq,qaQ] at g2
      simp at g2
     conv=>whnf
     refine qak (by omega) ?_
     conv=>whnf
     rw [hsh]
     conv=>whnf
     refine qca (qcf _) (by intro x hx;simp at hx;subst hx;rfl) (by simp only [maxLen,List.length_cons,List.length_nil];omega) ?_
     conv=>whnf
     refine qak (by omega) ?_
     conv=>whnf
     refine ⟨i,by omega,by omega,qag ⟨⟨rfl,rfl,rfl,rfl, ?_⟩,trivial⟩ ⟨rfl,trivial, ?_,trivial⟩⟩
     ·rw [hN,qbM hN0,hdd, <-qlT]
      congr 1
      have e9:((N:Int))%256=((UInt8.ofNat (N%256)).toNat:Int):=by simp only [UInt8.toNat_ofNat'];omega
      unfold by8
      simp only [List.map_cons,List.map_nil]
      rw [e9]
     ·conv=>whnf
    ·have hN0:N=0:=by
      rw [hl8] at g2
      have:nbl (n/256^(i+1))= [] :=List.eq_nil_of_length_eq_zero (by omega)
      have:=qiT.1 this
      omega
     conv=>whnf
     refine qak (by omega) ?_
     conv=>whnf
     refine ⟨i,by omega,by omega,qag ⟨⟨rfl,rfl,rfl,rfl, ?_⟩,trivial⟩ ⟨rfl,trivial, ?_,trivial⟩⟩
     ·rw [hN, <-hdd,hN0]
     ·conv=>whnf
theorem qlF(r:RD)(h1:r.num.size<=3)(h2:r.den.size<=3):Fun Tryz.prog 159 [rdD r] [i64 (iv r.neg r.num),i64 (dv r.den:Nat),.v (.bool true)] :=by
 have c1:=qku r.num (by omega)
 have c2:=qku r.den (by omega)
 have hb:bv r.num<16777216:=by
  have a1:bv r.num<256^r.num.size:=qaV _
  have a2:=Nat.pow_le_pow_right (n:=256) (by omega) h1
  have a3:(256:Nat)^3=16777216:=rfl
  omega
 unfold dv iv
 refine qad (fun t=>false) mixed tOk Tryz.func159 rfl rfl ?_
 conv=>whnf
 refine qaU (by omega) ?_
 conv=>whnf
 refine qaU (by omega) ?_
 conv=>whnf
 refine qab c1 ?_
 conv=>whnf
 refine qab c2 ?_
 conv=>whnf
 refine qac (by kernel_rfl) ?_
 conv=>whnf
 refine qaf (fun g=> ?_) (fun g=> ?_)
 ·conv=>whnf
  refine qal (fun g2=> ?_) (fun g2=> ?_)
  ·conv=>whnf
   refine qak (by omega) ?_
   conv=>whnf
   refine ⟨?_, ?_,rfl,trivial⟩
   ·conv=>whnf
    rw [if_pos g2];omega
   ·conv=>whnf
    rw [if_pos (show bv r.den=0 by omega)]
    try rfl
  ·conv=>whnf
   refine ⟨?_, ?_,rfl,trivial⟩
   ·conv=>whnf
    rw [if_neg (by rw [g2];simp)]
   ·conv=>whnf
    rw [if_pos (show bv r.den=0 by omega)]
    try rfl
 ·conv=>whnf
  refine qal (fun g2=> ?_) (fun g2=> ?_)
  ·conv=>whnf
   refine qak (by omega) ?_
   conv=>whnf
   refine ⟨?_, ?_,rfl,trivial⟩
   ·conv=>whnf
    rw [if_pos g2];omega
   ·conv=>whnf
    rw [if_neg (show¬bv r.den=0 by omega)]
    try rfl
  ·conv=>whnf
   refine ⟨?_, ?_,rfl,trivial⟩
   ·conv=>whnf
    rw [if_neg (by rw [g2];simp)]
   ·conv=>whnf
    rw [if_neg (show¬bv r.den=0 by omega)]
    try rfl
theorem ql2(r:RD)(h: ¬(r.num.size<=3/\r.den.size<=3)):Fun Tryz.prog 159 [rdD r] [i64 0,i64 0,.v (.bool false)] :=by
 refine qad (fun t=>false) mixed tOk Tryz.func159 rfl rfl ?_
 conv=>whnf
 refine qaf (fun g=> ?_) (fun g=> ?_)
 ·conv=>whnf
  exact ⟨rfl,rfl,rfl,trivial⟩
 ·conv=>whnf
  refine qaf (fun g=> ?_) (fun g=> ?_)
  ·conv=>whnf
   exact ⟨rfl,rfl,rfl,trivial⟩
  ·omega
theorem qla(n d:Int)(hn: -36028797018963968<n/\n<36028797018963968)(hd:0<d/\d<36028797018963968):Fun Tryz.prog 160 [i64 n,i64 d] [qas (mkRat n d.toNat)] :=by
 obtain ⟨N,hN⟩: ∃N,N=n.natAbs:=⟨_,rfl⟩
 obtain ⟨M,hM⟩: ∃M:Nat,d=(M:Int):=⟨d.toNat,by omega⟩
 subst hM
 rw [Int.toNat_natCast]
 have hd0:M≠0:=by omega
 obtain ⟨p1,p2⟩:=qdM n hd0
 have e2:decide (n<0)=qel (mkRat n M):=by
  have hG:(0:Int)<(Nat.gcd n.natAbs M:Nat):=by
   have:=Nat.gcd_pos_of_pos_right n.natAbs (show 0<M by omega);omega
  rw [ql6,p1]
  by_cases hneg:n<0
  ·simp [hneg,Int.ediv_neg_of_neg_of_pos hneg hG]
  ·have:=Int.ediv_nonneg (show 0<=n by omega) (Int.le_of_lt hG)
   simp [hneg];omega
 have e1:nb (n.natAbs/Nat.gcd n.natAbs M)=qeC (mkRat n M):=by
  rw [qlZ,p1,Int.natAbs_ediv_of_dvd (Int.ofNat_dvd_left.2 (Nat.gcd_dvd_left _ _))];rfl
 have e3:=qjK (mkRat n M)
 rw [p2] at e3
 refine qad (fun t=>false) mixed tOk Tryz.func160 rfl rfl ?_
 conv=>whnf
 have ec:N=0->canon (mkRat n M)=⟨false,emp,emp⟩:=fun h=>by
  rw [show n=0 by omega,Rat.zero_mkRat];decide
 generalize mkRat n M=Q at*
 generalize hz:decide (n<0)=z at*
 refine qby (fun g=> ?_) (fun g=> ?_)
 ·conv=>whnf
  have hneg:n<0:=by rw [g] at hz;simpa using hz
  refine qak (by omega) ?_
  conv=>whnf
  rw [show 0-n=(n.natAbs:Int) by omega]
  rw [<-hN] at e1 e3 ⊢
  conv=>whnf
  refine qa9 (fun g0=> ?_) (fun g0=> ?_)
  ·conv=>whnf
   refine ⟨?_,trivial⟩
   rw [qaN]
   conv=>whnf
   rw [ec (by omega)]
   exact ⟨rfl,rfl,rfl,trivial⟩
  ·conv=>whnf
   refine qah (fun t=>false) (fun p:Nat×Nat=>⟨fr 41 [(0,.d (i64 (N:Int))),(1,.d (i64 (M:Int))),(4,.ptr 0 0 0),(5,.ptr 1 0 0),(6,.d (i64 (p.1:Int))),(7,.d (i64 (p.2:Int)))], [.box 23 [.d (.v (.bool false)),.d (.v (.string ⟨#[]⟩)),.d (.v (.string ⟨#[]⟩))],.box 23 [.d (.v (.bool z)),.d (.v (.string ⟨#[]⟩)),.d (.v (.string ⟨#[]⟩))]]⟩) (fun p=>Nat.gcd p.1 p.2=Nat.gcd N M/\p.1<36028797018963968/\p.2<36028797018963968) (fun p=>p.2) (N,M) mixed tOk ⟨rfl,by simp only;omega,by simp only;omega⟩ ?_ ?_
   ·refine qag ⟨⟨rfl,rfl,rfl,rfl,trivial⟩,⟨rfl, ?_,rfl,rfl,trivial⟩,trivial⟩ ⟨rfl,rfl,rfl,rfl,rfl,rfl,trivial⟩
    conv=>whnf
    rw [qaH]
   ·rintro ⟨a,b⟩ ⟨j1,j2,j3⟩
    simp only at j1 j2 j3 ⊢
    conv=>whnf
    refine qaf (fun g1=> ?_) (fun g1=> ?_)
    ·conv=>whnf
     have r1:Int.tmod (a:Int) (b:Int)=((a%b:Nat):Int):=rfl
     rw [r1]
     have r2:=Nat.mod_lt a (show 0<b by omega)
     refine qak (by omega) ?_
     conv=>whnf
     refine qac (by kernel_rfl) ?_
     conv=>whnf
     refine ⟨(b,a%b),⟨by simp only;rw [Nat.gcd_comm, <-Nat.gcd_rec,Nat.gcd_comm];exact j1,by simp only;omega,by simp only;omega⟩,by simp only;omega,qag ⟨⟨rfl,rfl,rfl,rfl,trivial⟩,⟨rfl,rfl,rfl,rfl,trivial⟩,trivial⟩ ⟨rfl,rfl,rfl,rfl,rfl,rfl,trivial⟩⟩
    ·have b0:b=0:=by omega
     subst b0
     rw [Nat.gcd_zero_right] at j1
     rw [<-j1] at e1 e3
     have ha:a≠0:=by
      rw [j1];intro h;exact hd0 (Nat.gcd_eq_zero_iff.1 h).2
     have q1:Int.tdiv (N:Int) (a:Int)=((N/a:Nat):Int):=rfl
     have q2:Int.tdiv (M:Int) (a:Int)=((M/a:Nat):Int):=rfl
     have q3:=Nat.div_le_self N a
     have q4:=Nat.div_le_self M a
     have q5:1<=M/a:=by
      rw [j1];exact Nat.div_pos (Nat.le_of_dvd (by omega) (Nat.gcd_dvd_right _ _)) (Nat.gcd_pos_of_pos_right _ (by omega))
     have q6:(0:Int)<=((N/a:Nat):Int):=Int.natCast_nonneg _
     conv=>whnf
     rw [q1]
     refine qcU (by omega) (by omega) ?_
     conv=>whnf
     refine qaa rfl rfl (qfL (N/a) (by omega)) ?_
     conv=>whnf
     rw [q2]
     generalize N/a=u at*
     generalize M/a=v at*
     refine qcU (by omega) (by omega) ?_
     conv=>whnf
     refine qaf (fun g4=> ?_) (fun g4=> ?_)
     ·conv=>whnf
      rw [q2]
      refine qcU (by omega) (by omega) ?_
      conv=>whnf
      refine qaa rfl rfl (qfL v (by omega)) ?_
      conv=>whnf
      rw [if_neg (by omega)] at e3
      refine ⟨?_,trivial⟩
      conv=>whnf
      exact ⟨e2,e1,e3.symm,trivial⟩
     ·conv=>whnf
      rw [if_pos (by omega)] at e3
      refine ⟨?_,trivial⟩
      conv=>whnf
      exact ⟨e2,e1,e3.symm,trivial⟩
 ·have hpos:0<=n:=by rw [g] at hz;simpa using hz
  rw [<-hN] at e1 e3
  have hnn:n=(N:Int):=by omega
  rw [hnn]
  conv=>whnf
  refine qa9 (fun g0=> ?_) (fun g0=> ?_)
  ·conv=>whnf
   refine ⟨?_,trivial⟩
   rw [qaN]
   conv=>whnf
   rw [ec (by omega)]
   exact ⟨rfl,rfl,rfl,trivial⟩
  ·conv=>whnf
   refine qah (fun t=>false) (fun p:Nat×Nat=>⟨fr 41 [(0,.d (i64 (N:Int))),(1,.d (i64 (M:Int))),(4,.ptr 0 0 0),(5,.ptr 1 0 0),(6,.d (i64 (p.1:Int))),(7,.d (i64 (p.2:Int)))], [.box 23 [.d (.v (.bool false)),.d (.v (.string ⟨#[]⟩)),.d (.v (.string ⟨#[]⟩))],.box 23 [.d (.v (.bool z)),.d (.v (.string ⟨#[]⟩)),.d (.v (.string ⟨#[]⟩))]]⟩) (fun p=>Nat.gcd p.1 p.2=Nat.gcd N M/\p.1<36028797018963968/\p.2<36028797018963968) (fun p=>p.2) (N,M) mixed tOk ⟨rfl,by simp only;omega,by simp only;omega⟩ ?_ ?_
   ·refine qag ⟨⟨rfl,rfl,rfl,rfl,trivial⟩,⟨rfl, ?_,rfl,rfl,trivial⟩,trivial⟩ ⟨rfl,rfl,rfl,rfl,rfl,rfl,trivial⟩
    conv=>whnf
    rw [qaH]
   ·rintro ⟨a,b⟩ ⟨j1,j2,j3⟩
    simp only at j1 j2 j3 ⊢
    conv=>whnf
    refine qaf (fun g1=> ?_) (fun g1=> ?_)
    ·conv=>whnf
     have r1:Int.tmod (a:Int) (b:Int)=((a%b:Nat):Int):=rfl
     rw [r1]
     have r2:=Nat.mod_lt a (show 0<b by omega)
     refine qak (by omega) ?_
     conv=>whnf
     refine qac (by kernel_rfl) ?_
     conv=>whnf
     refine ⟨(b,a%b),⟨by simp only;rw [Nat.gcd_comm, <-Nat.gcd_rec,Nat.gcd_comm];exact j1,by simp only;omega,by simp only;omega⟩,by simp only;omega,qag ⟨⟨rfl,rfl,rfl,rfl,trivial⟩,⟨rfl,rfl,rfl,rfl,trivial⟩,trivial⟩ ⟨rfl,rfl,rfl,rfl,rfl,rfl,trivial⟩⟩
    ·have b0:b=0:=by omega
     subst b0
     rw [Nat.gcd_zero_right] at j1
     rw [<-j1] at e1 e3
     have ha:a≠0:=by
      rw [j1];intro h;exact hd0 (Nat.gcd_eq_zero_iff.1 h).2
     have q1:Int.tdiv (N:Int) (a:Int)=((N/a:Nat):Int):=rfl
     have q2:Int.tdiv (M:Int) (a:Int)=((M/a:Nat):Int):=rfl
     have q3:=Nat.div_le_self N a
     have q4:=Nat.div_le_self M a
     have q5:1<=M/a:=by
      rw [j1];exact Nat.div_pos (Nat.le_of_dvd (by omega) (Nat.gcd_dvd_right _ _)) (Nat.gcd_pos_of_pos_right _ (by omega))
     have q6:(0:Int)<=((N/a:Nat):Int):=Int.natCast_nonneg _
     conv=>whnf
     rw [q1]
     refine qcU (by omega) (by omega) ?_
     conv=>whnf
     refine qaa rfl rfl (qfL (N/a) (by omega)) ?_
     conv=>whnf
     rw [q2]
     generalize N/a=u at*
     generalize M/a=v at*
     refine qcU (by omega) (by omega) ?_
     conv=>whnf
     refine qaf (fun g4=> ?_) (fun g4=> ?_)
     ·conv=>whnf
      rw [q2]
      refine qcU (by omega) (by omega) ?_
      conv=>whnf
      refine qaa rfl rfl (qfL v (by omega)) ?_
      conv=>whnf
      rw [if_neg (by omega)] at e3
      refine ⟨?_,trivial⟩
      conv=>whnf
      exact ⟨e2,e1,e3.symm,trivial⟩
     ·conv=>whnf
      rw [if_pos (by omega)] at e3
      refine ⟨?_,trivial⟩
      conv=>whnf
      exact ⟨e2,e1,e3.symm,trivial⟩
theorem qjS(n:Bool)(s:ByteArray)(hs:s.size<400000000000):Fun Tryz.prog 226 [intD n s,intD false ⟨#[]⟩] [zD (sg n (bv s))] :=by
 have:=qtE n false s ⟨#[]⟩ hs (by decide)
 rwa [qzo,show sg false 0=0 from rfl,Int.add_zero] at this
theorem qcY(r:RD)(h1:r.num.size<400000000000)(h2:r.den.size<400000000000):Fun Tryz.prog 161 [rdD r] [zD (iv r.neg r.num),zD (dv r.den:Nat)] :=by
 have c1:=qjS r.neg r.num h1
 have c2:=qjS false r.den h2
 rw [show sg false (bv r.den)=((bv r.den:Nat):Int) from rfl,qb2] at c2
 rw [qb2,qCX]
 refine qad (fun t=>false) mixed tOk Tryz.func161 rfl rfl ?_
 conv=>whnf
 refine qaa rfl rfl c1 ?_
 conv=>whnf
 refine qaa rfl rfl c2 ?_
 conv=>whnf
 refine qby (fun g=> ?_) (fun g=> ?_)
 ·rw [qc6,decide_eq_true_eq] at g
  conv=>whnf
  refine qaa rfl rfl (qsd 1 (by omega)) ?_
  conv=>whnf
  refine qac (by kernel_rfl) ?_
  conv=>whnf
  unfold dv
  rw [if_pos g]
  exact ⟨⟨rfl,rfl,trivial⟩,⟨rfl,rfl,trivial⟩,trivial⟩
 ·rw [qc6,decide_eq_false_iff_not] at g
  conv=>whnf
  refine qac (by kernel_rfl) ?_
  conv=>whnf
  unfold dv
  rw [if_neg g]
  exact ⟨⟨rfl,rfl,trivial⟩,⟨rfl,rfl,trivial⟩,trivial⟩
theorem qtD(v:Nat):(nb v==(⟨#[1]⟩:ByteArray))=decide (v=1):=by
 rw [qbN,decide_eq_decide,show (⟨#[1]⟩:ByteArray)=nb 1 from by decide]
 exact ⟨qux,fun h=>by rw [h]⟩
theorem qhx(x:Int)(b:Nat)(hx:(nb x.natAbs).size<200000000000)(hb:(nb b).size<200000000000)(h0:b≠0):Fun Tryz.prog 162 [zD x,zD (b:Int)] [qas (mkRat x b)] :=by
 have c1:=qjS (ng x) (nb x.natAbs) (by omega)
 have c2:=qjS false (nb b) (by omega)
 rw [qbp,qhL] at c1
 rw [qbp,show sg false b=(b:Int) from rfl,qb2] at c2
 have c3:=qx9 (ng x) false (nb x.natAbs) (nb b) (by omega) (by omega) (by rw [qbp];exact h0)
 rw [qbp,qbp] at c3
 obtain ⟨p1,p2⟩:=qdM x h0
 have hG0:Nat.gcd x.natAbs b≠0:=fun h=>h0 (Nat.gcd_eq_zero_iff.1 h).2
 have hGb:Nat.gcd x.natAbs b<=b:=Nat.le_of_dvd (by omega) (Nat.gcd_dvd_right _ _)
 have ec:x=0->canon (mkRat x b)=⟨false,emp,emp⟩:=fun h=>by
  rw [h,Rat.zero_mkRat];decide
 have e1:=qlZ (mkRat x b)
 have e2:=ql6 (mkRat x b)
 have e3:=qjK (mkRat x b)
 rw [p1] at e1 e2
 rw [p2] at e3
 generalize Nat.gcd x.natAbs b=G at*
 have c4:=quU x G (by omega) (by have:=qeP hGb;omega) hG0
 have c5:=quU (b:Int) G (by rw [Int.natAbs_natCast];omega) (by have:=qeP hGb;omega) hG0
 rw [qb2] at c3 c4 c5
 rw [qb2] at c5
 rw [show (b:Int)/(G:Int)=((b/G:Nat):Int) from rfl,qb2] at c5
 rw [qb2]
 generalize mkRat x b=Q at*
 refine qad (fun t=>t==2||t==3) mixed tOk Tryz.func162 rfl rfl ?_
 conv=>whnf
 refine qab c1 ?_
 conv=>whnf
 refine qab c2 ?_
 conv=>whnf
 refine qac (by kernel_rfl) ?_
 conv=>whnf
 refine qby (fun g=> ?_) (fun g=> ?_)
 ·rw [qc6,decide_eq_true_eq] at g
  conv=>whnf
  refine ⟨?_,trivial⟩
  rw [qaN]
  conv=>whnf
  rw [ec (by omega)]
  exact ⟨rfl,rfl,rfl,trivial⟩
 ·rw [qc6,decide_eq_false_iff_not] at g
  conv=>whnf
  refine qaa rfl rfl c3 ?_
  conv=>whnf
  refine qaa rfl rfl c4 ?_
  conv=>whnf
  refine qaa rfl rfl c5 ?_
  conv=>whnf
  generalize x/(G:Int)=u at*
  generalize b/G=v at*
  have f2:ng u=qel Q:=by rw [qbo];exact e2.symm
  refine qby (fun g2=> ?_) (fun g2=> ?_)
  ·rw [qtD] at g2
   rw [if_neg (by simpa using g2)] at e3
   conv=>whnf
   refine ⟨?_,trivial⟩
   conv=>whnf
   exact ⟨f2,e1.symm,e3.symm,trivial⟩
  ·rw [qtD] at g2
   rw [if_pos (by simpa using g2)] at e3
   conv=>whnf
   refine ⟨?_,trivial⟩
   conv=>whnf
   exact ⟨f2,e1.symm,e3.symm,trivial⟩
theorem qcN(a b:Nat):(nb (a*b)).size<=(nb a).size+(nb b).size:=by
 have h1:=qaV (nbl a)
 have h2:=qaV (nbl b)
 rw [qcs] at h1 h2
 have:=Nat.mul_lt_mul'' h1 h2
 rw [<-Nat.pow_add] at this
 exact qba this
theorem qq9(a b k:Nat)(ha:(nb a).size<=k)(hb:(nb b).size<=k):(nb (a+b)).size<=k+1:=by
 have h1:=qaV (nbl a)
 have h2:=qaV (nbl b)
 rw [qcs] at h1 h2
 have h3:=Nat.pow_le_pow_right (n:=256) (by omega) (show (nbl a).length<=k from ha)
 have h4:=Nat.pow_le_pow_right (n:=256) (by omega) (show (nbl b).length<=k from hb)
 exact qba (by rw [Nat.pow_succ];omega)
theorem qkc(r:RD):(nb (iv r.neg r.num).natAbs).size<=r.num.size:=qkZ r.neg r.num
theorem qk0(r:RD):(nb (dv r.den)).size<=r.den.size\/(nb (dv r.den)).size<=1:=by
 unfold dv
 split
 ·exact .inr (by decide)
 ·exact .inl (qex r.den)
theorem qh7(x y:Int)(hx:(nb x.natAbs).size<400000000000)(hy:(nb y.natAbs).size<400000000000):Fun Tryz.prog 163 [zD x,zD y] [zD (x*y)] :=by
 have:=qxZ (ng x) (ng y) (nb x.natAbs) (nb y.natAbs) hx hy
 rwa [qbp,qbp,qhL,qhL] at this
theorem qAK(x y:Int):Fun Tryz.prog 239 [zD x,zD y] [i64 (qgB x y)] :=by
 have:=qvt (ng x) (ng y) (nb x.natAbs) (nb y.natAbs)
 rwa [qbp,qbp,qhL,qhL] at this
theorem qdP{r:RD}(h1:r.num.size<=3)(h2:r.den.size<=3): -16777216<iv r.neg r.num/\iv r.neg r.num<16777216/\0<dv r.den/\dv r.den<16777216:=by
 have a1:bv r.num<256^r.num.size:=qaV _
 have a2:=Nat.pow_le_pow_right (n:=256) (by omega) h1
 have b1:bv r.den<256^r.den.size:=qaV _
 have b2:=Nat.pow_le_pow_right (n:=256) (by omega) h2
 have a3:(256:Nat)^3=16777216:=rfl
 have:=qcm r.den
 refine ⟨?_, ?_,this, ?_⟩
 ·unfold iv;split<;>omega
 ·unfold iv;split<;>omega
 ·unfold dv;split<;>omega
theorem pbd{x y:Int}(h1:x.natAbs<16777216)(h2:y.natAbs<16777216): -281474976710656<x*y/\x*y<281474976710656:=by
 have:=Nat.mul_lt_mul'' h1 h2
 rw [<-Int.natAbs_mul] at this
 omega
theorem qkw(r:RD):r.val=mkRat (iv r.neg r.num) (dv r.den):=rfl
set_option maxHeartbeats 2000000 in
theorem quN(r s:RD)(hr:Sz r)(hs:Sz s):Fun Tryz.prog 158 [rdD r,rdD s] [qas (r.val+s.val)] :=by
 obtain ⟨r1,r2⟩:=hr
 obtain ⟨s1,s2⟩:=hs
 rw [qkw,qkw,Rat.mkRat_add_mkRat _ _ (by have:=qcm r.den;omega) (by have:=qcm s.den;omega)]
 have b1:=qdP (r:=r)
 have b2:=qdP (r:=s)
 have t1:=qlF r
 have t2:=qlF s
 have f1:=ql2 r
 have f2:=ql2 s
 have q1:=qcY r (by omega) (by omega)
 have q2:=qcY s (by omega) (by omega)
 have z1:=qkc r
 have z2:=qkc s
 have z3:=qk0 r
 have z4:=qk0 s
 have d1:=qcm r.den
 have d2:=qcm s.den
 generalize iv r.neg r.num=x at*
 generalize iv s.neg s.num=y at*
 generalize dv r.den=a at*
 generalize dv s.den=b at*
 have m1:=qcN x.natAbs b
 have m2:=qcN y.natAbs a
 have m3:=qcN a b
 have e1:(x*(b:Int)).natAbs=x.natAbs*b:=by rw [Int.natAbs_mul,Int.natAbs_natCast]
 have e2:(y*(a:Int)).natAbs=y.natAbs*a:=by rw [Int.natAbs_mul,Int.natAbs_natCast]
 have m4:=qq9 (x.natAbs*b) (y.natAbs*a) 199999999998 (by omega) (by omega)
 have m5:(nb (x*(b:Int)+y*(a:Int)).natAbs).size<=199999999999:=by
  have:=qeP (show (x*(b:Int)+y*(a:Int)).natAbs<=x.natAbs*b+y.natAbs*a by omega)
  omega
 have w1:=qh7 x (b:Int) (by omega) (by rw [Int.natAbs_natCast];omega)
 have w2:=qh7 y (a:Int) (by omega) (by rw [Int.natAbs_natCast];omega)
 have w3:=qtL (x*(b:Int)) (y*(a:Int)) (by rw [e1];omega) (by rw [e2];omega)
 have w4:=qh7 (a:Int) (b:Int) (by rw [Int.natAbs_natCast];omega) (by rw [Int.natAbs_natCast];omega)
 rw [show (a:Int)*(b:Int)=((a*b:Nat):Int) by push_cast;rfl] at w4
 have w5:=qhx (x*(b:Int)+y*(a:Int)) (a*b) (by omega) (by omega) (by have:=Nat.mul_pos d1 d2;omega)
 refine qad (fun t=>false) mixed tOk Tryz.func158 rfl rfl ?_
 conv=>whnf
 by_cases hA:r.num.size<=3/\r.den.size<=3
 ·refine qaa rfl rfl (t1 hA.1 hA.2) ?_
  conv=>whnf
  by_cases hB:s.num.size<=3/\s.den.size<=3
  ·refine qaa rfl rfl (t2 hB.1 hB.2) ?_
   conv=>whnf
   obtain ⟨i1,i2,i3,i4⟩:=b1 hA.1 hA.2
   obtain ⟨j1,j2,j3,j4⟩:=b2 hB.1 hB.2
   have k1:=pbd (x:=x) (y:=(b:Int)) (by omega) (by omega)
   have k2:=pbd (x:=y) (y:=(a:Int)) (by omega) (by omega)
   have k3:=pbd (x:=(a:Int)) (y:=(b:Int)) (by omega) (by omega)
   have k4:=Nat.mul_pos d1 d2
   have k5:(a:Int)*(b:Int)=((a*b:Nat):Int):=by push_cast;rfl
   refine qak (by omega) ?_
   conv=>whnf
   refine qak (by omega) ?_
   conv=>whnf
   refine qak (by omega) ?_
   conv=>whnf
   refine qak (by omega) ?_
   conv=>whnf
   rw [k5] at k3 ⊢
   have pk:=qla (x*(b:Int)+y*(a:Int)) ((a*b:Nat):Int) (by omega) (by omega)
   rw [Int.toNat_natCast] at pk
   refine qaa rfl rfl pk ?_
   conv=>whnf
   exact ⟨⟨rfl,rfl,rfl,trivial⟩,trivial⟩
  ·refine qaa rfl rfl (f2 hB) ?_
   conv=>whnf
   refine qaa rfl rfl q1 ?_
   conv=>whnf
   refine qaa rfl rfl q2 ?_
   conv=>whnf
   refine qab w1 ?_
   conv=>whnf
   refine qab w2 ?_
   conv=>whnf
   refine qab w3 ?_
   conv=>whnf
   refine qab w4 ?_
   conv=>whnf
   refine qab w5 ?_
   conv=>whnf
   refine qac (by kernel_rfl) ?_
   conv=>whnf
   exact ⟨⟨rfl,rfl,rfl,trivial⟩,trivial⟩
 ·refine qaa rfl rfl (f1 hA) ?_
  conv=>whnf
  by_cases hB:s.num.size<=3/\s.den.size<=3
  ·refine qaa rfl rfl (t2 hB.1 hB.2) ?_
   conv=>whnf
   refine qaa rfl rfl q1 ?_
   conv=>whnf
   refine qaa rfl rfl q2 ?_
   conv=>whnf
   refine qab w1 ?_
   conv=>whnf
   refine qab w2 ?_
   conv=>whnf
   refine qab w3 ?_
   conv=>whnf
   refine qab w4 ?_
   conv=>whnf
   refine qab w5 ?_
   conv=>whnf
   refine qac (by kernel_rfl) ?_
   conv=>whnf
   exact ⟨⟨rfl,rfl,rfl,trivial⟩,trivial⟩
  ·refine qaa rfl rfl (f2 hB) ?_
   conv=>whnf
   refine qaa rfl rfl q1 ?_
   conv=>whnf
   refine qaa rfl rfl q2 ?_
   conv=>whnf
   refine qab w1 ?_
   conv=>whnf
   refine qab w2 ?_
   conv=>whnf
   refine qab w3 ?_
   conv=>whnf
   refine qab w4 ?_
   conv=>whnf
   refine qab w5 ?_
   conv=>whnf
   refine qac (by kernel_rfl) ?_
   conv=>whnf
   exact ⟨⟨rfl,rfl,rfl,trivial⟩,trivial⟩
theorem qsQ(a:Nat):(((a:Int)).natAbs)=a:=Int.natAbs_natCast a
set_option maxHeartbeats 2000000 in
theorem que(r s:RD)(hr:Sz r)(hs:Sz s):Fun Tryz.prog 101 [rdD r,rdD s] [qas (r.val*s.val)] :=by
 obtain ⟨r1,r2⟩:=hr
 obtain ⟨s1,s2⟩:=hs
 rw [qkw,qkw,Rat.mkRat_mul_mkRat]
 have b1:=qdP (r:=r)
 have b2:=qdP (r:=s)
 have t1:=qlF r
 have t2:=qlF s
 have f1:=ql2 r
 have f2:=ql2 s
 have q1:=qcY r (by omega) (by omega)
 have q2:=qcY s (by omega) (by omega)
 have z1:=qkc r
 have z2:=qkc s
 have z3:=qk0 r
 have z4:=qk0 s
 have d1:=qcm r.den
 have d2:=qcm s.den
 generalize iv r.neg r.num=x at*
 generalize iv s.neg s.num=y at*
 generalize dv r.den=a at*
 generalize dv s.den=b at*
 have m1:=qcN x.natAbs y.natAbs
 have m3:=qcN a b
 have e1:(x*y).natAbs=x.natAbs*y.natAbs:=Int.natAbs_mul x y
 have w1:=qh7 x y (by omega) (by omega)
 have w4:=qh7 (a:Int) (b:Int) (by rw [qsQ];omega) (by rw [qsQ];omega)
 rw [show (a:Int)*(b:Int)=((a*b:Nat):Int) by push_cast;rfl] at w4
 have w5:=qhx (x*y) (a*b) (by rw [e1];omega) (by omega) (by have:=Nat.mul_pos d1 d2;omega)
 refine qad (fun t=>false) mixed tOk Tryz.func101 rfl rfl ?_
 conv=>whnf
 by_cases hA:r.num.size<=3/\r.den.size<=3
 ·refine qaa rfl rfl (t1 hA.1 hA.2) ?_
  conv=>whnf
  by_cases hB:s.num.size<=3/\s.den.size<=3
  ·refine qaa rfl rfl (t2 hB.1 hB.2) ?_
   conv=>whnf
   obtain ⟨i1,i2,i3,i4⟩:=b1 hA.1 hA.2
   obtain ⟨j1,j2,j3,j4⟩:=b2 hB.1 hB.2
   have k1:=pbd (x:=x) (y:=y) (by omega) (by omega)
   have k3:=pbd (x:=(a:Int)) (y:=(b:Int)) (by omega) (by omega)
   have k4:=Nat.mul_pos d1 d2
   have k5:(a:Int)*(b:Int)=((a*b:Nat):Int):=by push_cast;rfl
   refine qak (by omega) ?_
   conv=>whnf
   refine qak (by omega) ?_
   conv=>whnf
   rw [k5] at k3 ⊢
   have pk:=qla (x*y) ((a*b:Nat):Int) (by omega) (by omega)
   rw [Int.toNat_natCast] at pk
   refine qaa rfl rfl pk ?_
   conv=>whnf
   exact ⟨⟨rfl,rfl,rfl,trivial⟩,trivial⟩
  ·refine qaa rfl rfl (f2 hB) ?_
   conv=>whnf
   refine qaa rfl rfl q1 ?_
   conv=>whnf
   refine qaa rfl rfl q2 ?_
   conv=>whnf
   refine qab w1 ?_
   conv=>whnf
   refine qab w4 ?_
   conv=>whnf
   refine qab w5 ?_
   conv=>whnf
   refine qac (by kernel_rfl) ?_
   conv=>whnf
   exact ⟨⟨rfl,rfl,rfl,trivial⟩,trivial⟩
 ·refine qaa rfl rfl (f1 hA) ?_
  conv=>whnf
  by_cases hB:s.num.size<=3/\s.den.size<=3
  ·refine qaa rfl rfl (t2 hB.1 hB.2) ?_
   conv=>whnf
   refine qaa rfl rfl q1 ?_
   conv=>whnf
   refine qaa rfl rfl q2 ?_
   conv=>whnf
   refine qab w1 ?_
   conv=>whnf
   refine qab w4 ?_
   conv=>whnf
   refine qab w5 ?_
   conv=>whnf
   refine qac (by kernel_rfl) ?_
   conv=>whnf
   exact ⟨⟨rfl,rfl,rfl,trivial⟩,trivial⟩
  ·refine qaa rfl rfl (f2 hB) ?_
   conv=>whnf
   refine qaa rfl rfl q1 ?_
   conv=>whnf
   refine qaa rfl rfl q2 ?_
   conv=>whnf
   refine qab w1 ?_
   conv=>whnf
   refine qab w4 ?_
   conv=>whnf
   refine qab w5 ?_
   conv=>whnf
   refine qac (by kernel_rfl) ?_
   conv=>whnf
   exact ⟨⟨rfl,rfl,rfl,trivial⟩,trivial⟩
theorem qyP(r s:RD):qdk r.val s.val=qgB (iv r.neg r.num*dv s.den) (iv s.neg s.num*dv r.den):=qqU r s
set_option maxHeartbeats 2000000 in
theorem qmm(r s:RD)(hr:Sz r)(hs:Sz s):Fun Tryz.prog 166 [rdD r,rdD s] [i64 (qdk r.val s.val)] :=by
 obtain ⟨r1,r2⟩:=hr
 obtain ⟨s1,s2⟩:=hs
 rw [qyP]
 have b1:=qdP (r:=r)
 have b2:=qdP (r:=s)
 have t1:=qlF r
 have t2:=qlF s
 have f1:=ql2 r
 have f2:=ql2 s
 have q1:=qcY r (by omega) (by omega)
 have q2:=qcY s (by omega) (by omega)
 have z1:=qkc r
 have z2:=qkc s
 have z3:=qk0 r
 have z4:=qk0 s
 have d1:=qcm r.den
 have d2:=qcm s.den
 generalize iv r.neg r.num=x at*
 generalize iv s.neg s.num=y at*
 generalize dv r.den=a at*
 generalize dv s.den=b at*
 have m1:=qcN x.natAbs b
 have m2:=qcN y.natAbs a
 have w1:=qh7 x (b:Int) (by omega) (by rw [qsQ];omega)
 have w2:=qh7 y (a:Int) (by omega) (by rw [qsQ];omega)
 have w3:=qAK (x*(b:Int)) (y*(a:Int))
 refine qad (fun t=>false) mixed tOk Tryz.func166 rfl rfl ?_
 conv=>whnf
 by_cases hA:r.num.size<=3/\r.den.size<=3
 ·refine qaa rfl rfl (t1 hA.1 hA.2) ?_
  conv=>whnf
  by_cases hB:s.num.size<=3/\s.den.size<=3
  ·refine qaa rfl rfl (t2 hB.1 hB.2) ?_
   conv=>whnf
   obtain ⟨i1,i2,i3,i4⟩:=b1 hA.1 hA.2
   obtain ⟨j1,j2,j3,j4⟩:=b2 hB.1 hB.2
   have k1:=pbd (x:=x) (y:=(b:Int)) (by omega) (by omega)
   have k2:=pbd (x:=y) (y:=(a:Int)) (by omega) (by omega)
   refine qak (by omega) ?_
   conv=>whnf
   refine qak (by omega) ?_
   conv=>whnf
   unfold qgB
   refine qaf (fun g=> ?_) (fun g=> ?_)
   ·conv=>whnf
    refine ⟨?_,trivial⟩
    conv=>whnf
    rw [if_pos g]
   ·conv=>whnf
    refine qak (by omega) ?_
    conv=>whnf
    refine qak (by omega) ?_
    conv=>whnf
    refine qaf (fun g2=> ?_) (fun g2=> ?_)
    ·conv=>whnf
     refine ⟨?_,trivial⟩
     conv=>whnf
     rw [if_neg g,if_pos (by omega)]
    ·conv=>whnf
     refine ⟨?_,trivial⟩
     conv=>whnf
     rw [if_neg g,if_neg (by omega)]
  ·refine qaa rfl rfl (f2 hB) ?_
   conv=>whnf
   refine qaa rfl rfl q1 ?_
   conv=>whnf
   refine qaa rfl rfl q2 ?_
   conv=>whnf
   refine qab w1 ?_
   conv=>whnf
   refine qab w2 ?_
   conv=>whnf
   refine qab w3 ?_
   conv=>whnf
   refine qac (by kernel_rfl) ?_
   conv=>whnf
   exact ⟨rfl,trivial⟩
 ·refine qaa rfl rfl (f1 hA) ?_
  conv=>whnf
  by_cases hB:s.num.size<=3/\s.den.size<=3
  ·refine qaa rfl rfl (t2 hB.1 hB.2) ?_
   conv=>whnf
   refine qaa rfl rfl q1 ?_
   conv=>whnf
   refine qaa rfl rfl q2 ?_
   conv=>whnf
   refine qab w1 ?_
   conv=>whnf
   refine qab w2 ?_
   conv=>whnf
   refine qab w3 ?_
   conv=>whnf
   refine qac (by kernel_rfl) ?_
   conv=>whnf
   exact ⟨rfl,trivial⟩
  ·refine qaa rfl rfl (f2 hB) ?_
   conv=>whnf
   refine qaa rfl rfl q1 ?_
   conv=>whnf
   refine qaa rfl rfl q2 ?_
   conv=>whnf
   refine qab w1 ?_
   conv=>whnf
   refine qab w2 ?_
   conv=>whnf
   refine qab w3 ?_
   conv=>whnf
   refine qac (by kernel_rfl) ?_
   conv=>whnf
   exact ⟨rfl,trivial⟩
theorem qwe(s:RD):(⟨!s.neg,s.num,s.den⟩:RD).val= -s.val:=by
 rw [qct,qct,Rat.neg_mkRat]
 congr 1
 unfold sg;cases s.neg<;>simp
theorem qAp(r s:RD)(hr:Sz r)(hs:Sz s):Fun Tryz.prog 100 [rdD r,rdD s] [qas (r.val-s.val)] :=by
 have e:r.val+(⟨!s.neg,s.num,s.den⟩:RD).val=r.val-s.val:=by rw [qwe,Rat.sub_eq_add_neg]
 refine qad (fun t=>t==3) mixed tOk Tryz.func100 rfl rfl ?_
 conv=>whnf
 refine qa4 rfl rfl (quN r ⟨!s.neg,s.num,s.den⟩ hr hs) (by simp only [qdQ];rfl) ?_
 conv=>whnf
 rw [e]
 exact ⟨⟨rfl,rfl,rfl,trivial⟩,trivial⟩
theorem qvw(r:RD)(hr:Sz r):Fun Tryz.prog 200 [rdD r] [i64 (qfQ r.val)] :=by
 have h0:Sz ⟨false,⟨#[]⟩,⟨#[]⟩⟩:=⟨by decide,by decide⟩
 have c:=qmm r ⟨false,⟨#[]⟩,⟨#[]⟩⟩ hr h0
 have e:qdk r.val (⟨false,⟨#[]⟩,⟨#[]⟩⟩:RD).val=qfQ r.val:=by
  have:(⟨false,⟨#[]⟩,⟨#[]⟩⟩:RD).val=0:=by decide
  rw [this,qed,qc8];rfl
 rw [e] at c
 refine qad (fun t=>false) mixed tOk Tryz.func200 rfl rfl ?_
 conv=>whnf
 refine qaa rfl rfl c ?_
 conv=>whnf
 exact ⟨rfl,trivial⟩
theorem qpm(r:RD)(hr:Sz r):Fun Tryz.prog 217 [rdD r] [qas r.val] :=by
 obtain ⟨r1,r2⟩:=hr
 have z1:=qkc r
 have z3:=qk0 r
 have d1:=qcm r.den
 refine qad (fun t=>false) mixed tOk Tryz.func217 rfl rfl ?_
 conv=>whnf
 by_cases hA:r.num.size<=3/\r.den.size<=3
 ·obtain ⟨i1,i2,i3,i4⟩:=qdP hA.1 hA.2
  refine qaa rfl rfl (qlF r hA.1 hA.2) ?_
  conv=>whnf
  have pk:=qla (iv r.neg r.num) (dv r.den:Nat) (by omega) (by omega)
  rw [Int.toNat_natCast] at pk
  refine qaa rfl rfl pk ?_
  conv=>whnf
  exact ⟨⟨rfl,rfl,rfl,trivial⟩,trivial⟩
 ·refine qaa rfl rfl (ql2 r hA) ?_
  conv=>whnf
  refine qaa rfl rfl (qcY r (by omega) (by omega)) ?_
  conv=>whnf
  refine qaa rfl rfl (qhx (iv r.neg r.num) (dv r.den) (by omega) (by omega) (by omega)) ?_
  conv=>whnf
  exact ⟨⟨rfl,rfl,rfl,trivial⟩,trivial⟩
theorem qwu(q:Rat)(r:RD):qdH [.v (.bool (qel q)),.v (.string (qeC q)),.v (.string (qeB q))] [.v (.bool r.neg),.v (.string r.num),.v (.string r.den)] =decide (canon q=r):=by
 unfold qel qeC qeB;exact qpD (canon q) r
theorem qnr(r:RD)(hr:Sz r):Fun Tryz.prog 151 [rdD r] [i64 (okN r)] :=by
 refine qad (fun t=>false) mixed tOk Tryz.func151 rfl rfl ?_
 conv=>whnf
 refine qab (qpm r hr) ?_
 conv=>whnf
 refine qac (by kernel_rfl) ?_
 conv=>whnf
 have e:qdH [D.v (.bool (qel r.val)),.v (.string (qeC r.val)),.v (.string (qeB r.val))] (List.take qDi.cells (List.drop 0 (rdD r).cells))=decide (canon r.val=r):=qwu _ r
 rw [e]
 refine qby (fun h=> ?_) (fun h=> ?_)
 ·have h1: ¬canon r.val=r:=by simpa using h
  conv=>whnf
  refine ⟨?_,trivial⟩
  conv=>whnf
  unfold okN;rw [if_neg h1]
 ·have h1:canon r.val=r:=by simpa using h
  conv=>whnf
  refine ⟨?_,trivial⟩
  conv=>whnf
  unfold okN;rw [if_pos h1]
theorem qzZ(S:Int)(t:Nat)(hS:S≠0):(⟨ng S,nb t,nb S.natAbs⟩:RD).val=(mkRat S t)⁻¹:=by
 rw [qct]
 have e1:dv (nb S.natAbs)=S.natAbs:=by unfold dv;rw [qbp,if_neg (by omega)]
 simp only
 rw [e1,qbp, <-Rat.divInt_ofNat, <-Rat.divInt_ofNat,Rat.inv_divInt,qbo]
 unfold sg
 by_cases h:S<0
 ·rw [if_pos (by simpa using h),show (S.natAbs:Int)= -S by omega,Rat.neg_divInt_neg]
 ·rw [if_neg (by simpa using h),show (S.natAbs:Int)=S by omega]
theorem qx5(r s:RD)(hr:Sz r)(hs:Sz s)(h0:s.val≠0):Fun Tryz.prog 277 [rdD r,rdD s] [qas (r.val/s.val),i64 0] :=by
 have hS:iv s.neg s.num≠0:=by
  intro h
  apply h0
  rw [qkw,h,Rat.zero_mkRat]
 have z1:=qkc s
 have z2:=qk0 s
 have c1:=qcY s (by have:=hs.1;omega) (by have:=hs.2;omega)
 have e:r.val/s.val=r.val*(⟨ng (iv s.neg s.num),nb (dv s.den),nb (iv s.neg s.num).natAbs⟩:RD).val:=by
  rw [qzZ _ _ hS,Rat.div_def];rfl
 have hz:Sz ⟨ng (iv s.neg s.num),nb (dv s.den),nb (iv s.neg s.num).natAbs⟩:=⟨by have:=hs.2;simp only;omega,by have:=hs.1;simp only;omega⟩
 have c2:=que r _ hr hz
 rw [<-e] at c2
 generalize iv s.neg s.num=S at*
 generalize dv s.den=t at*
 rw [qb2] at c1
 generalize r.val/s.val=Q at*
 refine qad (fun t=>false) mixed tOk Tryz.func277 rfl rfl ?_
 conv=>whnf
 refine qaa rfl rfl c1 ?_
 conv=>whnf
 refine qa1 (by rw [qc6];simpa using hS) ?_
 conv=>whnf
 refine qaa rfl rfl c2 ?_
 conv=>whnf
 exact ⟨⟨rfl,rfl,rfl,trivial⟩,rfl,trivial⟩
theorem qmY{p q:Rat}(hp:Q p)(hq:Q q):Fun Tryz.prog 158 [qas p,qas q] [qas (p+q)] :=by
 have:=quN (canon p) (canon q) hp.sz hq.sz
 rwa [qar,qar, <-qaN, <-qaN] at this
theorem qhh{p q:Rat}(hp:Q p)(hq:Q q):Fun Tryz.prog 101 [qas p,qas q] [qas (p*q)] :=by
 have:=que (canon p) (canon q) hp.sz hq.sz
 rwa [qar,qar, <-qaN, <-qaN] at this
theorem qpJ{p q:Rat}(hp:Q p)(hq:Q q):Fun Tryz.prog 100 [qas p,qas q] [qas (p-q)] :=by
 have:=qAp (canon p) (canon q) hp.sz hq.sz
 rwa [qar,qar, <-qaN, <-qaN] at this
theorem qmR{p q:Rat}(hp:Q p)(hq:Q q):Fun Tryz.prog 166 [qas p,qas q] [i64 (qdk p q)] :=by
 have:=qmm (canon p) (canon q) hp.sz hq.sz
 rwa [qar,qar, <-qaN, <-qaN] at this
theorem qjs{p:Rat}(hp:Q p):Fun Tryz.prog 200 [qas p] [i64 (qfQ p)] :=by
 have:=qvw (canon p) hp.sz
 rwa [qar, <-qaN] at this
theorem qyc{p q:Rat}(hp:Q p)(hq:Q q)(h0:q≠0):Fun Tryz.prog 277 [qas p,qas q] [qas (p/q),i64 0] :=by
 have:=qx5 (canon p) (canon q) hp.sz hq.sz (by rw [qar];exact h0)
 rwa [qar,qar, <-qaN, <-qaN] at this
end Go.Nv
end
