import Derived.Test.YtlmmifgminkdkaaGreatNvD3
import Derived.Test.YtlmmifgminkdkaaGreatNvC3
set_option linter.all false
set_option maxRecDepth 100000
section
namespace Go.Nv
open Go.Proofs Nw
theorem qhg(x:Int):sg (ng x) x.natAbs=x:=by
 rw [qbs];unfold sg;by_cases h:x<0<;>simp [h] <;>omega
theorem qme(x:Int):zD x=intD (ng x) (nb x.natAbs):=rfl
theorem qey(s:ByteArray):(nb (bv s)).size<=s.size:=by
 rw [qdn];exact qba (qaV _)
theorem qku(n:Bool)(s:ByteArray):(nb (sg n (bv s)).natAbs).size<=s.size:=by rw [qdV];exact qey s
theorem qnK(x:Int):Fun Tryz.prog 233 [zD x] [zD x] :=by
 have:=qc2 (ng x) (nb x.natAbs)
 rwa [qbo,qhg] at this
theorem qAD(x:Int):Fun Tryz.prog 230 [zD x] [zD (-x)] :=by
 have:=qt7 (ng x) (nb x.natAbs)
 rwa [qbo,qhg] at this
theorem qnN(x:Int)(h:(nb x.natAbs).size<=7):Fun Tryz.prog 234 [zD x] [i64 x] :=by
 have:=qtD (ng x) (nb x.natAbs) h
 rwa [qbo,qhg] at this
theorem qlT{x:Int}(h:(nb x.natAbs).size<=7): -72057594037927936<x/\x<72057594037927936:=by
 have:=qgX (n:=ng x) h
 rwa [qbo,qhg] at this
theorem qBE{x y:Int}(g:ng x=ng y):zD (x+y)=intD (ng x) (nb (x.natAbs+y.natAbs)):=by
 rw [qbs,qbs,decide_eq_decide] at g
 rw [qme,qbs,qbs,show (decide (x+y<0))=decide (x<0) by rw [decide_eq_decide];omega,show (x+y).natAbs=x.natAbs+y.natAbs by omega]
theorem qAH{x y:Int}(g:ng x≠ng y)(g2:qcE x.natAbs y.natAbs=0):zD (x+y)=intD false (nb 0):=by
 rw [qbs,qbs,Ne,decide_eq_decide] at g
 have:x+y=0:=by unfold qcE at g2;repeat' split at g2<;>omega
 rw [this,qme,qbs];rfl
theorem qFM{x y:Int}(g:ng x≠ng y)(g3:qcE x.natAbs y.natAbs>0):y.natAbs<x.natAbs/\zD (x+y)=intD (ng x) (nb (x.natAbs-y.natAbs)):=by
 rw [qbs,qbs,Ne,decide_eq_decide] at g
 have h:y.natAbs<x.natAbs:=by unfold qcE at g3;repeat' split at g3<;>omega
 refine ⟨h, ?_⟩
 rw [qme,qbs,qbs,show (decide (x+y<0))=decide (x<0) by rw [decide_eq_decide];omega,show (x+y).natAbs=x.natAbs-y.natAbs by omega]
theorem qFC{x y:Int}(g:ng x≠ng y)(g2: ¬qcE x.natAbs y.natAbs=0)(g3: ¬qcE x.natAbs y.natAbs>0):x.natAbs<y.natAbs/\zD (x+y)=intD (ng y) (nb (y.natAbs-x.natAbs)):=by
 rw [qbs,qbs,Ne,decide_eq_decide] at g
 have h:x.natAbs<y.natAbs:=by
  unfold qcE at g2 g3
  split at g2<;>rename_i h1
  ·exact h1
  ·rw [if_neg h1] at g3;split at g2<;>omega
 refine ⟨h, ?_⟩
 rw [qme,qbs,qbs,show (decide (x+y<0))=decide (y<0) by rw [decide_eq_decide];omega,show (x+y).natAbs=y.natAbs-x.natAbs by omega]
theorem qt8(n m:Bool)(s t:ByteArray)(hs:s.size<400000000000)(ht:t.size<400000000000):Fun Tryz.prog 226 [intD n s,intD m t] [zD (sg n (bv s)+sg m (bv t))] :=by
 have c1:=qc2 n s
 have c2:=qc2 m t
 have l1:=qku n s
 have l2:=qku m t
 generalize sg n (bv s)=x at*
 generalize sg m (bv t)=y at*
 refine qac (fun t=>t==2||t==3) mixed tOk Tryz.func226 rfl rfl ?_
 conv=>whnf
 refine qab c1 ?_
 conv=>whnf
 refine qab c2 ?_
 conv=>whnf
 refine qad (by kernel_rfl) ?_
 conv=>whnf
 refine qaf (fun h=> ?_) (fun h=> ?_)
 ·conv=>whnf
  refine qaf (fun h2=> ?_) (fun h2=> ?_)
  ·conv=>whnf
   refine qab (qnN x (by omega)) ?_
   conv=>whnf
   refine qab (qnN y (by omega)) ?_
   conv=>whnf
   have b1:=qlT (x:=x) (by omega)
   have b2:=qlT (x:=y) (by omega)
   refine qak (by omega) ?_
   conv=>whnf
   refine qab (qsu (x+y) (by omega)) ?_
   conv=>whnf
   refine qad (by kernel_rfl) ?_
   conv=>whnf
   exact ⟨⟨rfl,rfl,trivial⟩,trivial⟩
  ·conv=>whnf
   refine qa4 (fun g=> ?_) (fun g=> ?_)
   ·conv=>whnf
    refine qab (qhL x.natAbs y.natAbs (by omega) (by omega)) ?_
    conv=>whnf
    refine qad (by kernel_rfl) ?_
    conv=>whnf
    rw [qBE g]
    exact ⟨⟨rfl,rfl,trivial⟩,trivial⟩
   ·conv=>whnf
    refine qaa rfl rfl (qdX x.natAbs y.natAbs) ?_
    conv=>whnf
    refine qaf (fun g2=> ?_) (fun g2=> ?_)
    ·conv=>whnf
     rw [qAH g g2]
     exact ⟨⟨rfl,rfl,trivial⟩,trivial⟩
    ·conv=>whnf
     refine qaf (fun g3=> ?_) (fun g3=> ?_)
     ·conv=>whnf
      obtain ⟨e1,e2⟩:=qFM g g3
      refine qab (qbt x.natAbs y.natAbs (by omega) (by omega) (by omega)) ?_
      conv=>whnf
      refine qad (by kernel_rfl) ?_
      conv=>whnf
      rw [e2]
      exact ⟨⟨rfl,rfl,trivial⟩,trivial⟩
     ·conv=>whnf
      obtain ⟨e1,e2⟩:=qFC g g2 g3
      refine qab (qbt y.natAbs x.natAbs (by omega) (by omega) (by omega)) ?_
      conv=>whnf
      refine qad (by kernel_rfl) ?_
      conv=>whnf
      rw [e2]
      exact ⟨⟨rfl,rfl,trivial⟩,trivial⟩
 ·conv=>whnf
  refine qa4 (fun g=> ?_) (fun g=> ?_)
  ·conv=>whnf
   refine qab (qhL x.natAbs y.natAbs (by omega) (by omega)) ?_
   conv=>whnf
   refine qad (by kernel_rfl) ?_
   conv=>whnf
   rw [qBE g]
   exact ⟨⟨rfl,rfl,trivial⟩,trivial⟩
  ·conv=>whnf
   refine qaa rfl rfl (qdX x.natAbs y.natAbs) ?_
   conv=>whnf
   refine qaf (fun g2=> ?_) (fun g2=> ?_)
   ·conv=>whnf
    rw [qAH g g2]
    exact ⟨⟨rfl,rfl,trivial⟩,trivial⟩
   ·conv=>whnf
    refine qaf (fun g3=> ?_) (fun g3=> ?_)
    ·conv=>whnf
     obtain ⟨e1,e2⟩:=qFM g g3
     refine qab (qbt x.natAbs y.natAbs (by omega) (by omega) (by omega)) ?_
     conv=>whnf
     refine qad (by kernel_rfl) ?_
     conv=>whnf
     rw [e2]
     exact ⟨⟨rfl,rfl,trivial⟩,trivial⟩
    ·conv=>whnf
     obtain ⟨e1,e2⟩:=qFC g g2 g3
     refine qab (qbt y.natAbs x.natAbs (by omega) (by omega) (by omega)) ?_
     conv=>whnf
     refine qad (by kernel_rfl) ?_
     conv=>whnf
     rw [e2]
     exact ⟨⟨rfl,rfl,trivial⟩,trivial⟩
theorem quC(x y:Int)(hx:(nb x.natAbs).size<400000000000)(hy:(nb y.natAbs).size<400000000000):Fun Tryz.prog 226 [zD x,zD y] [zD (x+y)] :=by
 have:=qt8 (ng x) (ng y) (nb x.natAbs) (nb y.natAbs) hx hy
 rwa [qbo,qbo,qhg,qhg] at this
theorem qtY(x y:Int)(hx:(nb x.natAbs).size<400000000000)(hy:(nb y.natAbs).size<400000000000):Fun Tryz.prog 322 [zD x,zD y] [zD (x-y)] :=by
 refine qac (fun t=>false) mixed tOk Tryz.func322 rfl rfl ?_
 conv=>whnf
 refine qab (qAD y) ?_
 conv=>whnf
 refine qab (quC x (-y) hx (by rw [Int.natAbs_neg];exact hy)) ?_
 conv=>whnf
 refine qad (by kernel_rfl) ?_
 conv=>whnf
 rw [<-Int.sub_eq_add_neg]
 exact ⟨⟨rfl,rfl,trivial⟩,trivial⟩
theorem qAx(x y:Int)(hx:x≠0)(hy:y≠0):zD (x*y)=intD (bz (ng x !=ng y)) (nb (x.natAbs*y.natAbs)):=by
 rw [qme,qaJ,qbs,qbs,qbs,Int.natAbs_mul]
 have e:decide (x*y<0)=(decide (x<0) !=decide (y<0)):=by
  rcases Int.lt_trichotomy x 0 with h|h|h<;>rcases Int.lt_trichotomy y 0 with h'|h'|h'
  ·have:=Int.mul_pos_of_neg_of_neg h h'
   simp [h,h'];omega
  ·omega
  ·have:=Int.mul_neg_of_neg_of_pos h h'
   simp [h,this];omega
  ·omega
  ·omega
  ·omega
  ·have:=Int.mul_neg_of_pos_of_neg h h'
   simp [h',this];omega
  ·omega
  ·have:=Int.mul_pos h h'
   have a1: ¬x<0:=by omega
   have a2: ¬y<0:=by omega
   have a3: ¬x*y<0:=by omega
   simp [a1,a2,a3]
 rw [e]
theorem qhP:zD 0=intD false ⟨#[]⟩:=by rw [qme,qbs];rfl
theorem quL(x:Int):x.natAbs<256^(nb x.natAbs).size:=by
 have:=qaV (nbl x.natAbs)
 rwa [qct, <-qdn] at this
theorem qq7{x y:Int}(h:(nb x.natAbs).size+(nb y.natAbs).size<=7): -72057594037927936<x*y/\x*y<72057594037927936:=by
 have h1:=Nat.mul_lt_mul'' (quL x) (quL y)
 rw [<-Nat.pow_add, <-Int.natAbs_mul] at h1
 have h2:=Nat.pow_le_pow_right (n:=256) (by omega) h
 have h3:(256:Nat)^7=72057594037927936:=rfl
 omega
theorem qrb(a b:Nat)(ha:(nb a).size<1000000000000)(hb:(nb b).size<1000000000000):Fun Tryz.prog 235 [.v (.string (nb a)),.v (.string (nb b))] [.v (.string (nb (a*b)))] :=by
 have:=qpx (nb a) (nb b) ha hb
 rwa [qbo,qbo] at this
theorem qAN(n m:Bool)(s t:ByteArray)(hs:s.size<400000000000)(ht:t.size<400000000000):Fun Tryz.prog 163 [intD n s,intD m t] [zD (sg n (bv s)*sg m (bv t))] :=by
 have c1:=qc2 n s
 have c2:=qc2 m t
 have l1:=qku n s
 have l2:=qku m t
 generalize sg n (bv s)=x at*
 generalize sg m (bv t)=y at*
 refine qac (fun t=>t==2||t==3) mixed tOk Tryz.func163 rfl rfl ?_
 conv=>whnf
 refine qab c1 ?_
 conv=>whnf
 refine qab c2 ?_
 conv=>whnf
 refine qad (by kernel_rfl) ?_
 conv=>whnf
 refine qbx (fun h=> ?_) (fun h=> ?_)
 ·rw [qdb,decide_eq_true_eq] at h
  have h0:x=0:=by omega
  subst h0
  conv=>whnf
  rw [Int.zero_mul,qhP]
  exact ⟨⟨rfl,rfl,trivial⟩,trivial⟩
 ·rw [qdb,decide_eq_false_iff_not] at h
  conv=>whnf
  refine qbx (fun h2=> ?_) (fun h2=> ?_)
  ·rw [qdb,decide_eq_true_eq] at h2
   have h0:y=0:=by omega
   subst h0
   conv=>whnf
   rw [Int.mul_zero,qhP]
   exact ⟨⟨rfl,rfl,trivial⟩,trivial⟩
  ·rw [qdb,decide_eq_false_iff_not] at h2
   conv=>whnf
   refine qak (by omega) ?_
   conv=>whnf
   refine qaf (fun h3=> ?_) (fun h3=> ?_)
   ·conv=>whnf
    refine qab (qnN x (by omega)) ?_
    conv=>whnf
    refine qab (qnN y (by omega)) ?_
    conv=>whnf
    have hp:=qq7 (x:=x) (y:=y) (by omega)
    refine qak (by omega) ?_
    conv=>whnf
    refine qab (qsu (x*y) (by omega)) ?_
    conv=>whnf
    refine qad (by kernel_rfl) ?_
    conv=>whnf
    exact ⟨⟨rfl,rfl,trivial⟩,trivial⟩
   ·conv=>whnf
    refine qab (qrb x.natAbs y.natAbs (by omega) (by omega)) ?_
    conv=>whnf
    refine qad (by kernel_rfl) ?_
    conv=>whnf
    rw [qAx x y (by omega) (by omega)]
    exact ⟨⟨rfl,rfl,trivial⟩,trivial⟩
theorem qvm(n m:Bool)(s t:ByteArray):Fun Tryz.prog 239 [intD n s,intD m t] [i64 (qgK (sg n (bv s)) (sg m (bv t)))] :=by
 have c1:=qc2 n s
 have c2:=qc2 m t
 generalize sg n (bv s)=x at*
 generalize sg m (bv t)=y at*
 refine qac (fun t=>t==2||t==3) mixed tOk Tryz.func239 rfl rfl ?_
 conv=>whnf
 refine qab c1 ?_
 conv=>whnf
 refine qab c2 ?_
 conv=>whnf
 refine qad (by kernel_rfl) ?_
 conv=>whnf
 rw [show qgK x y=(if ng x≠ng y then (if ng x then-1 else 1) else if ng x then qcE y.natAbs x.natAbs else qcE x.natAbs y.natAbs) by
  rw [qbs,qbs];unfold qgK qcE;simp only [Ne,decide_eq_decide,decide_eq_true_eq];repeat' split
  all_goals omega]
 refine qav (fun h=> ?_) (fun h=> ?_)
 ·conv=>whnf
  rw [if_pos h]
  refine qal (fun h2=> ?_) (fun h2=> ?_)
  ·conv=>whnf
   refine ⟨?_,trivial⟩
   conv=>whnf
   rw [if_pos h2]
  ·conv=>whnf
   refine ⟨?_,trivial⟩
   conv=>whnf
   rw [if_neg (by rw [h2];simp)]
 ·conv=>whnf
  rw [if_neg (fun hh=>hh h)]
  refine qal (fun h2=> ?_) (fun h2=> ?_)
  ·conv=>whnf
   refine qaa rfl rfl (qdX y.natAbs x.natAbs) ?_
   conv=>whnf
   refine ⟨?_,trivial⟩
   conv=>whnf
   rw [if_pos h2]
  ·conv=>whnf
   refine qaa rfl rfl (qdX x.natAbs y.natAbs) ?_
   conv=>whnf
   refine ⟨?_,trivial⟩
   conv=>whnf
   rw [if_neg (by rw [h2];simp)]
theorem qgZ(a:Nat)(h:(nb a).size<=7):Fun Tryz.prog 321 [.v (.string (nb a))] [i64 (a:Nat)] :=by
 have:=qj1 (nb a) h
 rwa [qbo] at this
theorem qfz(a b:Nat)(ha:(nb a).size<1000000000000)(hb:(nb b).size<400000000000)(h0:b≠0):Fun Tryz.prog 320 [.v (.string (nb a)),.v (.string (nb b))] [.v (.string (nb (a/b))),.v (.string (nb (a%b)))] :=by
 have:=qpn (nb a) b ha hb h0
 rwa [qbo] at this
theorem qb3(a:Nat):zD (a:Int)=intD false (nb a):=by
 rw [qme,qbs,show decide ((a:Int)<0)=false by simp];rfl
theorem qjP{a:Nat}(h:(nb a).size<=7):a<72057594037927936:=by
 have:=qlT (x:=(a:Int)) (by simpa using h)
 omega
theorem qs7(a:Nat)(h:a<=9223372036854775807):Fun Tryz.prog 229 [i64 (a:Int)] [intD false (nb a)] :=by
 have:=qsu (a:Int) (by omega)
 rwa [qb3] at this
theorem qeR{a b:Nat}(h:a<=b):(nb a).size<=(nb b).size:=by
 rcases Nat.lt_or_ge (nb b).size (nb a).size with h1|h1
 ·have:=qws h1;omega
 ·exact h1
theorem qtn(x:Int)(b:Nat)(h0:b≠0):(0<=x->x/(b:Int)=((x.natAbs/b:Nat):Int)/\x%(b:Int)=((x.natAbs%b:Nat):Int))/\
  (x<0->x.natAbs%b=0->x/(b:Int)= -((x.natAbs/b:Nat):Int)/\x%(b:Int)=0)/\
  (x<0->x.natAbs%b≠0->x/(b:Int)= -((x.natAbs/b:Nat):Int)-1/\x%(b:Int)=(b:Int)-((x.natAbs%b:Nat):Int)):=by
 have e:=Nat.div_add_mod x.natAbs b
 have l:=Nat.mod_lt x.natAbs (show 0<b by omega)
 have hb:(0:Int)<b:=by omega
 have e':(b:Int)*((x.natAbs/b:Nat):Int)+((x.natAbs%b:Nat):Int)=x.natAbs:=by rw [<-Int.natCast_mul, <-Int.natCast_add,e]
 generalize x.natAbs/b=q at*
 generalize x.natAbs%b=r at*
 refine ⟨fun h=> ?_,fun h h2=> ?_,fun h h2=> ?_⟩
 ·rw [Int.ediv_emod_unique hb];omega
 ·rw [Int.ediv_emod_unique hb,Int.mul_neg];omega
 ·rw [Int.ediv_emod_unique hb,Int.mul_sub,Int.mul_neg];omega
set_option maxHeartbeats 2000000 in
theorem qtT(x:Int)(b:Nat)(hx:(nb x.natAbs).size<300000000000)(hb:(nb b).size<300000000000)(h0:b≠0):Fun Tryz.prog 232 [zD x,zD (b:Int)] [zD (x/(b:Int)),zD (x%(b:Int)),i64 0] :=by
 have c1:=qnK x
 have c2:=qnK (b:Int)
 rw [qb3] at*
 refine qac (fun t=>t==2||t==3) mixed tOk Tryz.func232 rfl rfl ?_
 conv=>whnf
 refine qab c1 ?_
 conv=>whnf
 refine qab c2 ?_
 conv=>whnf
 refine qad (by kernel_rfl) ?_
 conv=>whnf
 have n1:=qt7 false (nb (x.natAbs/b))
 rw [qbo,show sg false (x.natAbs/b)=((x.natAbs/b:Nat):Int) from rfl] at n1
 have n2:=qsu 1 (by omega)
 have m1:(nb (x.natAbs/b)).size<=(nb x.natAbs).size:=qeR (Nat.div_le_self _ _)
 have m2:(nb (x.natAbs%b)).size<=(nb b).size:=qeR (Nat.le_of_lt (Nat.mod_lt _ (by omega)))
 have n3:=qtY (-((x.natAbs/b:Nat):Int)) 1 (by rw [Int.natAbs_neg,Int.natAbs_natCast];omega) (by decide)
 have n4:=qtY (b:Int) ((x.natAbs%b:Nat):Int) (by rw [Int.natAbs_natCast];omega) (by rw [Int.natAbs_natCast];omega)
 rw [qb3,qb3] at n4
 obtain ⟨z1,z2,z3⟩:=qtn x b h0
 refine qbx (fun h=> ?_) (fun h=> ?_)
 ·rw [qdb,decide_eq_true_eq] at h
  exact absurd h h0
 ·conv=>whnf
  refine qaf (fun h1=> ?_) (fun h1=> ?_)
  ·conv=>whnf
   refine qaf (fun h2=> ?_) (fun h2=> ?_)
   ·conv=>whnf
    refine qab (qgZ x.natAbs (by omega)) ?_
    conv=>whnf
    refine qab (qgZ b (by omega)) ?_
    conv=>whnf
    refine qad (by kernel_rfl) ?_
    conv=>whnf
    have b1:=qjP (a:=x.natAbs) (by omega)
    have b2:=qjP (a:=b) (by omega)
    have q1:Int.tdiv (x.natAbs:Int) (b:Int)=((x.natAbs/b:Nat):Int):=rfl
    have q2:Int.tmod (x.natAbs:Int) (b:Int)=((x.natAbs%b:Nat):Int):=rfl
    have q3:=Nat.div_le_self x.natAbs b
    have q4:=Nat.mod_lt x.natAbs (show 0<b by omega)
    have q5:(0:Int)<=((x.natAbs/b:Nat):Int):=Int.natCast_nonneg _
    rw [q1]
    refine qcZ (by omega) (by omega) ?_
    conv=>whnf
    refine qab (qs7 (x.natAbs/b) (by omega)) ?_
    conv=>whnf
    rw [q2]
    refine qak (by omega) ?_
    conv=>whnf
    refine qab (qs7 (x.natAbs%b) (by omega)) ?_
    conv=>whnf
    refine qad (by kernel_rfl) ?_
    conv=>whnf
    refine qav (fun g=> ?_) (fun g=> ?_)
    ·conv=>whnf
     have hx0:x<0:=by rw [qbs] at g;simpa using g
     refine qaa rfl rfl n1 ?_
     conv=>whnf
     refine qbx (fun g2=> ?_) (fun g2=> ?_)
     ·conv=>whnf
      rw [qdb] at g2
      obtain ⟨y1,y2⟩:=z3 hx0 (by simpa using g2)
      rw [y1,y2]
      refine qab n2 ?_
      conv=>whnf
      refine qab n3 ?_
      conv=>whnf
      refine qad (by kernel_rfl) ?_
      conv=>whnf
      refine qaa rfl rfl n4 ?_
      conv=>whnf
      refine qad (by kernel_rfl) ?_
      conv=>whnf
      exact ⟨⟨rfl,rfl,trivial⟩,⟨rfl,rfl,trivial⟩,rfl,trivial⟩
     ·conv=>whnf
      rw [qdb] at g2
      have r0:x.natAbs%b=0:=by simpa using g2
      obtain ⟨y1,y2⟩:=z2 hx0 r0
      rw [y1,y2,qhP,r0,qgg]
      refine qad (by kernel_rfl) ?_
      conv=>whnf
      exact ⟨⟨rfl,rfl,trivial⟩,⟨rfl,rfl,trivial⟩,rfl,trivial⟩
    ·conv=>whnf
     have hx0:0<=x:=by rw [qbs] at g;simpa using g
     obtain ⟨y1,y2⟩:=z1 hx0
     rw [y1,y2,qb3,qb3]
     refine qad (by kernel_rfl) ?_
     conv=>whnf
     exact ⟨⟨rfl,rfl,trivial⟩,⟨rfl,rfl,trivial⟩,rfl,trivial⟩
   ·conv=>whnf
    refine qaa rfl rfl (qfz x.natAbs b (by omega) (by omega) h0) ?_
    conv=>whnf
    refine qav (fun g=> ?_) (fun g=> ?_)
    ·conv=>whnf
     have hx0:x<0:=by rw [qbs] at g;simpa using g
     refine qaa rfl rfl n1 ?_
     conv=>whnf
     refine qbx (fun g2=> ?_) (fun g2=> ?_)
     ·conv=>whnf
      rw [qdb] at g2
      obtain ⟨y1,y2⟩:=z3 hx0 (by simpa using g2)
      rw [y1,y2]
      refine qab n2 ?_
      conv=>whnf
      refine qab n3 ?_
      conv=>whnf
      refine qad (by kernel_rfl) ?_
      conv=>whnf
      refine qaa rfl rfl n4 ?_
      conv=>whnf
      refine qad (by kernel_rfl) ?_
      conv=>whnf
      exact ⟨⟨rfl,rfl,trivial⟩,⟨rfl,rfl,trivial⟩,rfl,trivial⟩
     ·conv=>whnf
      rw [qdb] at g2
      have r0:x.natAbs%b=0:=by simpa using g2
      obtain ⟨y1,y2⟩:=z2 hx0 r0
      rw [y1,y2,qhP,r0,qgg]
      refine qad (by kernel_rfl) ?_
      conv=>whnf
      exact ⟨⟨rfl,rfl,trivial⟩,⟨rfl,rfl,trivial⟩,rfl,trivial⟩
    ·conv=>whnf
     have hx0:0<=x:=by rw [qbs] at g;simpa using g
     obtain ⟨y1,y2⟩:=z1 hx0
     rw [y1,y2,qb3,qb3]
     refine qad (by kernel_rfl) ?_
     conv=>whnf
     exact ⟨⟨rfl,rfl,trivial⟩,⟨rfl,rfl,trivial⟩,rfl,trivial⟩
  ·conv=>whnf
   refine qaa rfl rfl (qfz x.natAbs b (by omega) (by omega) h0) ?_
   conv=>whnf
   refine qav (fun g=> ?_) (fun g=> ?_)
   ·conv=>whnf
    have hx0:x<0:=by rw [qbs] at g;simpa using g
    refine qaa rfl rfl n1 ?_
    conv=>whnf
    refine qbx (fun g2=> ?_) (fun g2=> ?_)
    ·conv=>whnf
     rw [qdb] at g2
     obtain ⟨y1,y2⟩:=z3 hx0 (by simpa using g2)
     rw [y1,y2]
     refine qab n2 ?_
     conv=>whnf
     refine qab n3 ?_
     conv=>whnf
     refine qad (by kernel_rfl) ?_
     conv=>whnf
     refine qaa rfl rfl n4 ?_
     conv=>whnf
     refine qad (by kernel_rfl) ?_
     conv=>whnf
     exact ⟨⟨rfl,rfl,trivial⟩,⟨rfl,rfl,trivial⟩,rfl,trivial⟩
    ·conv=>whnf
     rw [qdb] at g2
     have r0:x.natAbs%b=0:=by simpa using g2
     obtain ⟨y1,y2⟩:=z2 hx0 r0
     rw [y1,y2,qhP,r0,qgg]
     refine qad (by kernel_rfl) ?_
     conv=>whnf
     exact ⟨⟨rfl,rfl,trivial⟩,⟨rfl,rfl,trivial⟩,rfl,trivial⟩
   ·conv=>whnf
    have hx0:0<=x:=by rw [qbs] at g;simpa using g
    obtain ⟨y1,y2⟩:=z1 hx0
    rw [y1,y2,qb3,qb3]
    refine qad (by kernel_rfl) ?_
    conv=>whnf
    exact ⟨⟨rfl,rfl,trivial⟩,⟨rfl,rfl,trivial⟩,rfl,trivial⟩
theorem qBd(n m:Bool)(s t:ByteArray)(hs:s.size<300000000000)(ht:t.size<300000000000)(h0:bv t≠0):Fun Tryz.prog 231 [intD n s,intD m t] [zD ((Nat.gcd (bv s) (bv t):Nat):Int)] :=by
 have l1:=qey s
 have l2:=qey t
 have c1:=qdT s
 have c2:=qdT t
 generalize bv s=x at*
 generalize bv t=y at*
 rw [qb3]
 refine qac (fun t=>false) mixed tOk Tryz.func231 rfl rfl ?_
 conv=>whnf
 refine qab c1 ?_
 conv=>whnf
 refine qab c2 ?_
 conv=>whnf
 refine qad (by kernel_rfl) ?_
 conv=>whnf
 refine qah (fun t=>false) (fun z:Nat×Nat=>⟨fr 53 [(4,.ptr 0 0 0),(5,.d (.v (.string (nb z.1)))),(6,.d (.v (.string (nb z.2))))], [.box 96 [.d (.v (.bool false)),.d (.v (.string ⟨#[]⟩))]]⟩) (fun z=>Nat.gcd z.1 z.2=Nat.gcd x y/\(nb z.1).size<300000000000/\(nb z.2).size<300000000000/\(z.1≠0\/z.2≠0)) (fun z=>z.2) (x,y) mixed tOk ⟨rfl,by simp only;omega,by simp only;omega,.inr h0⟩ ?_ ?_
 ·refine qag ⟨⟨rfl,rfl,rfl,trivial⟩,trivial⟩ ⟨rfl,rfl,rfl,trivial⟩
 ·rintro ⟨a,b⟩ ⟨i1,i2,i3,i4⟩
  simp only at i1 i2 i3 i4 ⊢
  conv=>whnf
  refine qbx (fun h=> ?_) (fun h=> ?_)
  ·have hb:b≠0:=by rw [qdb] at h;simpa using h
   conv=>whnf
   refine qaf (fun h2=> ?_) (fun h2=> ?_)
   ·conv=>whnf
    refine qaa rfl rfl (qfz a b (by omega) (by omega) hb) ?_
    conv=>whnf
    refine ⟨(b,a%b),⟨by simp only;rw [Nat.gcd_comm, <-Nat.gcd_rec,Nat.gcd_comm];exact i1,by simp only;omega,by simp only;have:=qeR (Nat.le_of_lt (Nat.mod_lt a (show 0<b by omega)));omega,.inl hb⟩,by simp only;exact Nat.mod_lt a (by omega),qag ⟨⟨rfl,rfl,rfl,trivial⟩,trivial⟩ ⟨rfl,rfl,rfl,trivial⟩⟩
   ·conv=>whnf
    refine qaf (fun h3=> ?_) (fun h3=> ?_)
    ·conv=>whnf
     refine qaa rfl rfl (qfz a b (by omega) (by omega) hb) ?_
     conv=>whnf
     refine ⟨(b,a%b),⟨by simp only;rw [Nat.gcd_comm, <-Nat.gcd_rec,Nat.gcd_comm];exact i1,by simp only;omega,by simp only;have:=qeR (Nat.le_of_lt (Nat.mod_lt a (show 0<b by omega)));omega,.inl hb⟩,by simp only;exact Nat.mod_lt a (by omega),qag ⟨⟨rfl,rfl,rfl,trivial⟩,trivial⟩ ⟨rfl,rfl,rfl,trivial⟩⟩
    ·conv=>whnf
     refine qaZ (by rw [qdb];simpa using hb) ?_
     conv=>whnf
     refine qaa rfl rfl (qgZ a (by omega)) ?_
     conv=>whnf
     refine qaa rfl rfl (qgZ b (by omega)) ?_
     conv=>whnf
     have a1:=qjP (a:=a) (by omega)
     have a2:=qjP (a:=b) (by omega)
     refine qah (fun t=>false) (fun z:Nat×Nat=>⟨fr 53 [(4,.ptr 0 0 0),(9,.d (i64 (z.1:Int))),(10,.d (i64 (z.2:Int)))], [.box 96 [.d (.v (.bool false)),.d (.v (.string ⟨#[]⟩))]]⟩) (fun z=>Nat.gcd z.1 z.2=Nat.gcd x y/\z.1<72057594037927936/\z.2<72057594037927936) (fun z=>z.2) (a,b) mixed tOk ⟨i1,a1,a2⟩ ?_ ?_
     ·refine qag ⟨⟨rfl,rfl,rfl,trivial⟩,trivial⟩ ⟨rfl,rfl,rfl,trivial⟩
     ·rintro ⟨c,d⟩ ⟨j1,j2,j3⟩
      simp only at j1 j2 j3 ⊢
      conv=>whnf
      refine qaf (fun g=> ?_) (fun g=> ?_)
      ·conv=>whnf
       have r1:Int.tmod (c:Int) (d:Int)=((c%d:Nat):Int):=rfl
       rw [r1]
       have r2:=Nat.mod_lt c (show 0<d by omega)
       refine qak (by omega) ?_
       conv=>whnf
       refine qad (by kernel_rfl) ?_
       conv=>whnf
       refine ⟨(d,c%d),⟨by simp only;rw [Nat.gcd_comm, <-Nat.gcd_rec,Nat.gcd_comm];exact j1,by simp only;omega,by simp only;omega⟩,by simp only;omega,qag ⟨⟨rfl,rfl,rfl,trivial⟩,trivial⟩ ⟨rfl,rfl,rfl,trivial⟩⟩
      ·have d0:d=0:=by omega
       subst d0
       conv=>whnf
       refine qaa rfl rfl (qs7 c (by omega)) ?_
       conv=>whnf
       rw [<-j1,Nat.gcd_zero_right]
       exact ⟨⟨rfl,rfl,trivial⟩,trivial⟩
  ·have hb:b=0:=by rw [qdb] at h;simpa using h
   subst hb
   conv=>whnf
   refine qem (by rw [qdb];rfl) ?_
   conv=>whnf
   rw [<-i1,Nat.gcd_zero_right]
   exact ⟨⟨rfl,rfl,trivial⟩,trivial⟩
theorem qkW(s:ByteArray)(hs:s.size<=7):Fun Tryz.prog 227 [.v (.string s)] [i64 (bv s)] :=by
 refine qac (fun t=>false) mixed tOk Tryz.func227 rfl rfl ?_
 conv=>whnf
 refine qah (fun t=>false) (fun i:Nat=>⟨fr 19 [(0,.d (.v (.string s))),(2,.d (i64 0)),(3,.d (i64 (pre s i))),(4,.d (i64 i))], []⟩) (fun i=>i<=s.size) (fun i=>s.size-i) 0 mixed tOk (Nat.zero_le _) ?_ ?_
 ·refine qag trivial ⟨rfl,rfl, ?_,rfl,trivial⟩
  conv=>whnf
  rw [qfm];rfl
 ·intro i hi
  conv=>whnf
  refine qaf (fun h2=> ?_) (fun h2=> ?_)<;>conv=>whnf
  ·obtain ⟨p1,p2⟩:=qew s i (by omega)
   have hp:=p54 (s:=s) (i:=i) (by omega) hs
   refine qak (by omega) ?_
   conv=>whnf
   refine qak (by omega) ?_
   conv=>whnf
   generalize s.data.toList[i]'_=b at p1 p2
   have hb:=b.toNat_lt
   refine qak (by rw [p1];omega) ?_
   conv=>whnf
   refine qak (by rw [p1];omega) ?_
   conv=>whnf
   refine qak (by omega) ?_
   conv=>whnf
   refine ⟨i+1,by omega,by omega,qag trivial ⟨rfl,rfl, ?_,rfl,trivial⟩⟩
   conv=>whnf
   rw [p1,p2]
   omega
  ·have hi2:i=s.size:=by omega
   refine ⟨?_,trivial⟩
   conv=>whnf
   rw [hi2,qe1]
theorem qGG(n j:Nat)(hj:j<=7):Int.fdiv (n:Int) (2^min (((8*(j:Int))).toNat) IntKind.i64.bits)=((n/256^j:Nat):Int):=by
 have e:min (((8*(j:Int))).toNat) IntKind.i64.bits=8*j:=by
  show min _ 64=_
  omega
 rw [e,Int.fdiv_eq_ediv_of_nonneg _ (by exact Int.le_of_lt (Int.pow_pos (by omega)))]
 rw [show (256:Nat)=2^8 from rfl, <-Nat.pow_mul]
 push_cast;rfl
theorem qfp(n:Nat)(h:n<72057594037927936):Fun Tryz.prog 228 [i64 (n:Int)] [.v (.string (nb n))] :=by
 refine qac (fun t=>false) mixed tOk Tryz.func228 rfl rfl ?_
 conv=>whnf
 refine qah (fun t=>false) (fun j:Nat=>⟨fr 30 [(0,.d (i64 (n:Int))),(3,.own 0 0),(4,.d (i64 (8*(j:Int)-8)))], [.row 0 5 1 1 (by8 (nbl (n/256^j)))]⟩) (fun j=>j<=7) (fun j=>j) 7 mixed tOk (by omega) ?_ ?_
 ·have e:n/256^7=0:=Nat.div_eq_of_lt h
  rw [e,qaP]
  exact qag ⟨⟨rfl,rfl,rfl,rfl,by unfold by8;rfl⟩,trivial⟩ ⟨rfl,trivial,rfl,trivial⟩
 ·intro j hj
  rcases j with _|i
  ·conv=>whnf
   refine qaU (by omega) ?_
   conv=>whnf
   refine qaB (qgc _) ?_
   conv=>whnf
   refine ⟨?_,trivial⟩
   conv=>whnf
   rw [Nat.pow_zero,Nat.div_one,qmq]
   rfl
  ·rw [show 8*((i+1:Nat):Int)-8=8*(i:Int) by omega]
   have hl8:=qcC (nbl (n/256^(i+1)))
   have hsh:=qGG n i (by omega)
   have hsz:=qba (n:=n/256^(i+1)) (k:=7) (Nat.lt_of_le_of_lt (Nat.div_le_self _ _) (by have:(256:Nat)^7=72057594037927936:=rfl;omega))
   have hdd:n/256^i/256=n/256^(i+1):=by rw [Nat.div_div_eq_div_mul, <-Nat.pow_succ]
   have hle:n/256^i<=n:=Nat.div_le_self _ _
   have htm:Int.tmod ((n/256^i:Nat):Int) 256=((n/256^i%256:Nat):Int):=rfl
   conv=>whnf
   refine qaI (by omega) ?_
   conv=>whnf
   refine qak (by omega) ?_
   conv=>whnf
   rw [hsh]
   refine qak (by omega) ?_
   conv=>whnf
   rw [htm]
   generalize hN:n/256^i=N at*
   have hz:N/256=0\/N≠0:=by omega
   refine qaf (fun g=> ?_) (fun g=> ?_)
   ·have hN0:N≠0:=by omega
    conv=>whnf
    refine qak (by omega) ?_
    conv=>whnf
    rw [hsh]
    conv=>whnf
    refine qca (qch _) (by intro x hx;simp at hx;subst hx;rfl) (by simp only [maxLen,List.length_cons,List.length_nil];omega) ?_
    conv=>whnf
    refine qak (by omega) ?_
    conv=>whnf
    refine ⟨i,by omega,by omega,qag ⟨⟨rfl,rfl,rfl,rfl, ?_⟩,trivial⟩ ⟨rfl,trivial, ?_,trivial⟩⟩
    ·rw [hN,qbL hN0,hdd, <-qlC]
     congr 1
     have e9:((N:Int))%256=((UInt8.ofNat (N%256)).toNat:Int):=by simp only [UInt8.toNat_ofNat'];omega
     unfold by8
     simp only [List.map_cons,List.map_nil]
     rw [e9]
    ·conv=>whnf
   ·conv=>whnf
    refine qaf (fun g2=> ?_) (fun g2=> ?_)
    ·have hN0:N≠0:=by
      intro hh
      have hq:n/256^(i+1)=0:=by rw [<-hdd,hh]
      rw [hl8,hq,qaP] at g2
      simp at g2
     conv=>whnf
     refine qak (by omega) ?_
     conv=>whnf
     rw [hsh]
     conv=>whnf
     refine qca (qch _) (by intro x hx;simp at hx;subst hx;rfl) (by simp only [maxLen,List.length_cons,List.length_nil];omega) ?_
     conv=>whnf
     refine qak (by omega) ?_
     conv=>whnf
     refine ⟨i,by omega,by omega,qag ⟨⟨rfl,rfl,rfl,rfl, ?_⟩,trivial⟩ ⟨rfl,trivial, ?_,trivial⟩⟩
     ·rw [hN,qbL hN0,hdd, <-qlC]
      congr 1
      have e9:((N:Int))%256=((UInt8.ofNat (N%256)).toNat:Int):=by simp only [UInt8.toNat_ofNat'];omega
      unfold by8
      simp only [List.map_cons,List.map_nil]
      rw [e9]
     ·conv=>whnf
    ·have hN0:N=0:=by
      rw [hl8] at g2
      have:nbl (n/256^(i+1))= [] :=List.eq_nil_of_length_eq_zero (by omega)
      have:=qiR.1 this
      omega
     conv=>whnf
     refine qak (by omega) ?_
     conv=>whnf
     refine ⟨i,by omega,by omega,qag ⟨⟨rfl,rfl,rfl,rfl, ?_⟩,trivial⟩ ⟨rfl,trivial, ?_,trivial⟩⟩
     ·rw [hN, <-hdd,hN0]
     ·conv=>whnf
theorem qlv(r:RD)(h1:r.num.size<=3)(h2:r.den.size<=3):Fun Tryz.prog 159 [rdD r] [i64 (iv r.neg r.num),i64 (dv r.den:Nat),.v (.bool true)] :=by
 have c1:=qkW r.num (by omega)
 have c2:=qkW r.den (by omega)
 have hb:bv r.num<16777216:=by
  have a1:bv r.num<256^r.num.size:=qaV _
  have a2:=Nat.pow_le_pow_right (n:=256) (by omega) h1
  have a3:(256:Nat)^3=16777216:=rfl
  omega
 unfold dv iv
 refine qac (fun t=>false) mixed tOk Tryz.func159 rfl rfl ?_
 conv=>whnf
 refine qaU (by omega) ?_
 conv=>whnf
 refine qaU (by omega) ?_
 conv=>whnf
 refine qab c1 ?_
 conv=>whnf
 refine qab c2 ?_
 conv=>whnf
 refine qad (by kernel_rfl) ?_
 conv=>whnf
 refine qaf (fun g=> ?_) (fun g=> ?_)
 ·conv=>whnf
  refine qal (fun g2=> ?_) (fun g2=> ?_)
  ·conv=>whnf
   refine qak (by omega) ?_
   conv=>whnf
   refine ⟨?_, ?_,rfl,trivial⟩
   ·conv=>whnf
    rw [if_pos g2];omega
   ·conv=>whnf
    rw [if_pos (show bv r.den=0 by omega)]
    try rfl
  ·conv=>whnf
   refine ⟨?_, ?_,rfl,trivial⟩
   ·conv=>whnf
    rw [if_neg (by rw [g2];simp)]
   ·conv=>whnf
    rw [if_pos (show bv r.den=0 by omega)]
    try rfl
 ·conv=>whnf
  refine qal (fun g2=> ?_) (fun g2=> ?_)
  ·conv=>whnf
   refine qak (by omega) ?_
   conv=>whnf
   refine ⟨?_, ?_,rfl,trivial⟩
   ·conv=>whnf
    rw [if_pos g2];omega
   ·conv=>whnf
    rw [if_neg (show¬bv r.den=0 by omega)]
    try rfl
  ·conv=>whnf
   refine ⟨?_, ?_,rfl,trivial⟩
   ·conv=>whnf
    rw [if_neg (by rw [g2];simp)]
   ·conv=>whnf
    rw [if_neg (show¬bv r.den=0 by omega)]
    try rfl
theorem ql3(r:RD)(h: ¬(r.num.size<=3/\r.den.size<=3)):Fun Tryz.prog 159 [rdD r] [i64 0,i64 0,.v (.bool false)] :=by
 refine qac (fun t=>false) mixed tOk Tryz.func159 rfl rfl ?_
 conv=>whnf
 refine qaf (fun g=> ?_) (fun g=> ?_)
 ·conv=>whnf
  exact ⟨rfl,rfl,rfl,trivial⟩
 ·conv=>whnf
  refine qaf (fun g=> ?_) (fun g=> ?_)
  ·conv=>whnf
   exact ⟨rfl,rfl,rfl,trivial⟩
  ·omega
theorem qlS(n d:Int)(hn: -36028797018963968<n/\n<36028797018963968)(hd:0<d/\d<36028797018963968):Fun Tryz.prog 160 [i64 n,i64 d] [qas (mkRat n d.toNat)] :=by
 obtain ⟨N,hN⟩: ∃N,N=n.natAbs:=⟨_,rfl⟩
 obtain ⟨M,hM⟩: ∃M:Nat,d=(M:Int):=⟨d.toNat,by omega⟩
 subst hM
 rw [Int.toNat_natCast]
 have hd0:M≠0:=by omega
 obtain ⟨p1,p2⟩:=qdM n hd0
 have e2:decide (n<0)=qd4 (mkRat n M):=by
  have hG:(0:Int)<(Nat.gcd n.natAbs M:Nat):=by
   have:=Nat.gcd_pos_of_pos_right n.natAbs (show 0<M by omega);omega
  rw [ql0,p1]
  by_cases hneg:n<0
  ·simp [hneg,Int.ediv_neg_of_neg_of_pos hneg hG]
  ·have:=Int.ediv_nonneg (show 0<=n by omega) (Int.le_of_lt hG)
   simp [hneg];omega
 have e1:nb (n.natAbs/Nat.gcd n.natAbs M)=qeo (mkRat n M):=by
  rw [qmn,p1,Int.natAbs_ediv_of_dvd (Int.ofNat_dvd_left.2 (Nat.gcd_dvd_left _ _))];rfl
 have e3:=qjj (mkRat n M)
 rw [p2] at e3
 refine qac (fun t=>false) mixed tOk Tryz.func160 rfl rfl ?_
 conv=>whnf
 have ec:N=0->canon (mkRat n M)=⟨false,emp,emp⟩:=fun h=>by
  rw [show n=0 by omega,Rat.zero_mkRat];decide
 generalize mkRat n M=Q at*
 generalize hz:decide (n<0)=z at*
 refine qbx (fun g=> ?_) (fun g=> ?_)
 ·conv=>whnf
  have hneg:n<0:=by rw [g] at hz;simpa using hz
  refine qak (by omega) ?_
  conv=>whnf
  rw [show 0-n=(n.natAbs:Int) by omega]
  rw [<-hN] at e1 e3 ⊢
  conv=>whnf
  refine qa4 (fun g0=> ?_) (fun g0=> ?_)
  ·conv=>whnf
   refine ⟨?_,trivial⟩
   rw [qaO]
   conv=>whnf
   rw [ec (by omega)]
   exact ⟨rfl,rfl,rfl,trivial⟩
  ·conv=>whnf
   refine qah (fun t=>false) (fun p:Nat×Nat=>⟨fr 41 [(0,.d (i64 (N:Int))),(1,.d (i64 (M:Int))),(4,.ptr 0 0 0),(5,.ptr 1 0 0),(6,.d (i64 (p.1:Int))),(7,.d (i64 (p.2:Int)))], [.box 23 [.d (.v (.bool false)),.d (.v (.string ⟨#[]⟩)),.d (.v (.string ⟨#[]⟩))],.box 23 [.d (.v (.bool z)),.d (.v (.string ⟨#[]⟩)),.d (.v (.string ⟨#[]⟩))]]⟩) (fun p=>Nat.gcd p.1 p.2=Nat.gcd N M/\p.1<36028797018963968/\p.2<36028797018963968) (fun p=>p.2) (N,M) mixed tOk ⟨rfl,by simp only;omega,by simp only;omega⟩ ?_ ?_
   ·refine qag ⟨⟨rfl,rfl,rfl,rfl,trivial⟩,⟨rfl, ?_,rfl,rfl,trivial⟩,trivial⟩ ⟨rfl,rfl,rfl,rfl,rfl,rfl,trivial⟩
    conv=>whnf
    rw [qaJ]
   ·rintro ⟨a,b⟩ ⟨j1,j2,j3⟩
    simp only at j1 j2 j3 ⊢
    conv=>whnf
    refine qaf (fun g1=> ?_) (fun g1=> ?_)
    ·conv=>whnf
     have r1:Int.tmod (a:Int) (b:Int)=((a%b:Nat):Int):=rfl
     rw [r1]
     have r2:=Nat.mod_lt a (show 0<b by omega)
     refine qak (by omega) ?_
     conv=>whnf
     refine qad (by kernel_rfl) ?_
     conv=>whnf
     refine ⟨(b,a%b),⟨by simp only;rw [Nat.gcd_comm, <-Nat.gcd_rec,Nat.gcd_comm];exact j1,by simp only;omega,by simp only;omega⟩,by simp only;omega,qag ⟨⟨rfl,rfl,rfl,rfl,trivial⟩,⟨rfl,rfl,rfl,rfl,trivial⟩,trivial⟩ ⟨rfl,rfl,rfl,rfl,rfl,rfl,trivial⟩⟩
    ·have b0:b=0:=by omega
     subst b0
     rw [Nat.gcd_zero_right] at j1
     rw [<-j1] at e1 e3
     have ha:a≠0:=by
      rw [j1];intro h;exact hd0 (Nat.gcd_eq_zero_iff.1 h).2
     have q1:Int.tdiv (N:Int) (a:Int)=((N/a:Nat):Int):=rfl
     have q2:Int.tdiv (M:Int) (a:Int)=((M/a:Nat):Int):=rfl
     have q3:=Nat.div_le_self N a
     have q4:=Nat.div_le_self M a
     have q5:1<=M/a:=by
      rw [j1];exact Nat.div_pos (Nat.le_of_dvd (by omega) (Nat.gcd_dvd_right _ _)) (Nat.gcd_pos_of_pos_right _ (by omega))
     have q6:(0:Int)<=((N/a:Nat):Int):=Int.natCast_nonneg _
     conv=>whnf
     rw [q1]
     refine qcZ (by omega) (by omega) ?_
     conv=>whnf
     refine qaa rfl rfl (qfp (N/a) (by omega)) ?_
     conv=>whnf
     rw [q2]
     generalize N/a=u at*
     generalize M/a=v at*
     refine qcZ (by omega) (by omega) ?_
     conv=>whnf
     refine qaf (fun g4=> ?_) (fun g4=> ?_)
     ·conv=>whnf
      rw [q2]
      refine qcZ (by omega) (by omega) ?_
      conv=>whnf
      refine qaa rfl rfl (qfp v (by omega)) ?_
      conv=>whnf
      rw [if_neg (by omega)] at e3
      refine ⟨?_,trivial⟩
      conv=>whnf
      exact ⟨e2,e1,e3.symm,trivial⟩
     ·conv=>whnf
      rw [if_pos (by omega)] at e3
      refine ⟨?_,trivial⟩
      conv=>whnf
      exact ⟨e2,e1,e3.symm,trivial⟩
 ·have hpos:0<=n:=by rw [g] at hz;simpa using hz
  rw [<-hN] at e1 e3
  have hnn:n=(N:Int):=by omega
  rw [hnn]
  conv=>whnf
  refine qa4 (fun g0=> ?_) (fun g0=> ?_)
  ·conv=>whnf
   refine ⟨?_,trivial⟩
   rw [qaO]
   conv=>whnf
   rw [ec (by omega)]
   exact ⟨rfl,rfl,rfl,trivial⟩
  ·conv=>whnf
   refine qah (fun t=>false) (fun p:Nat×Nat=>⟨fr 41 [(0,.d (i64 (N:Int))),(1,.d (i64 (M:Int))),(4,.ptr 0 0 0),(5,.ptr 1 0 0),(6,.d (i64 (p.1:Int))),(7,.d (i64 (p.2:Int)))], [.box 23 [.d (.v (.bool false)),.d (.v (.string ⟨#[]⟩)),.d (.v (.string ⟨#[]⟩))],.box 23 [.d (.v (.bool z)),.d (.v (.string ⟨#[]⟩)),.d (.v (.string ⟨#[]⟩))]]⟩) (fun p=>Nat.gcd p.1 p.2=Nat.gcd N M/\p.1<36028797018963968/\p.2<36028797018963968) (fun p=>p.2) (N,M) mixed tOk ⟨rfl,by simp only;omega,by simp only;omega⟩ ?_ ?_
   ·refine qag ⟨⟨rfl,rfl,rfl,rfl,trivial⟩,⟨rfl, ?_,rfl,rfl,trivial⟩,trivial⟩ ⟨rfl,rfl,rfl,rfl,rfl,rfl,trivial⟩
    conv=>whnf
    rw [qaJ]
   ·rintro ⟨a,b⟩ ⟨j1,j2,j3⟩
    simp only at j1 j2 j3 ⊢
    conv=>whnf
    refine qaf (fun g1=> ?_) (fun g1=> ?_)
    ·conv=>whnf
     have r1:Int.tmod (a:Int) (b:Int)=((a%b:Nat):Int):=rfl
     rw [r1]
     have r2:=Nat.mod_lt a (show 0<b by omega)
     refine qak (by omega) ?_
     conv=>whnf
     refine qad (by kernel_rfl) ?_
     conv=>whnf
     refine ⟨(b,a%b),⟨by simp only;rw [Nat.gcd_comm, <-Nat.gcd_rec,Nat.gcd_comm];exact j1,by simp only;omega,by simp only;omega⟩,by simp only;omega,qag ⟨⟨rfl,rfl,rfl,rfl,trivial⟩,⟨rfl,rfl,rfl,rfl,trivial⟩,trivial⟩ ⟨rfl,rfl,rfl,rfl,rfl,rfl,trivial⟩⟩
    ·have b0:b=0:=by omega
     subst b0
     rw [Nat.gcd_zero_right] at j1
     rw [<-j1] at e1 e3
     have ha:a≠0:=by
      rw [j1];intro h;exact hd0 (Nat.gcd_eq_zero_iff.1 h).2
     have q1:Int.tdiv (N:Int) (a:Int)=((N/a:Nat):Int):=rfl
     have q2:Int.tdiv (M:Int) (a:Int)=((M/a:Nat):Int):=rfl
     have q3:=Nat.div_le_self N a
     have q4:=Nat.div_le_self M a
     have q5:1<=M/a:=by
      rw [j1];exact Nat.div_pos (Nat.le_of_dvd (by omega) (Nat.gcd_dvd_right _ _)) (Nat.gcd_pos_of_pos_right _ (by omega))
     have q6:(0:Int)<=((N/a:Nat):Int):=Int.natCast_nonneg _
     conv=>whnf
     rw [q1]
     refine qcZ (by omega) (by omega) ?_
     conv=>whnf
     refine qaa rfl rfl (qfp (N/a) (by omega)) ?_
     conv=>whnf
     rw [q2]
     generalize N/a=u at*
     generalize M/a=v at*
     refine qcZ (by omega) (by omega) ?_
     conv=>whnf
     refine qaf (fun g4=> ?_) (fun g4=> ?_)
     ·conv=>whnf
      rw [q2]
      refine qcZ (by omega) (by omega) ?_
      conv=>whnf
      refine qaa rfl rfl (qfp v (by omega)) ?_
      conv=>whnf
      rw [if_neg (by omega)] at e3
      refine ⟨?_,trivial⟩
      conv=>whnf
      exact ⟨e2,e1,e3.symm,trivial⟩
     ·conv=>whnf
      rw [if_pos (by omega)] at e3
      refine ⟨?_,trivial⟩
      conv=>whnf
      exact ⟨e2,e1,e3.symm,trivial⟩
theorem qjc(n:Bool)(s:ByteArray)(hs:s.size<400000000000):Fun Tryz.prog 226 [intD n s,intD false ⟨#[]⟩] [zD (sg n (bv s))] :=by
 have:=qt8 n false s ⟨#[]⟩ hs (by decide)
 rwa [qA1,show sg false 0=0 from rfl,Int.add_zero] at this
theorem qc4(r:RD)(h1:r.num.size<400000000000)(h2:r.den.size<400000000000):Fun Tryz.prog 161 [rdD r] [zD (iv r.neg r.num),zD (dv r.den:Nat)] :=by
 have c1:=qjc r.neg r.num h1
 have c2:=qjc false r.den h2
 rw [show sg false (bv r.den)=((bv r.den:Nat):Int) from rfl,qb3] at c2
 rw [qb3,qEM]
 refine qac (fun t=>false) mixed tOk Tryz.func161 rfl rfl ?_
 conv=>whnf
 refine qaa rfl rfl c1 ?_
 conv=>whnf
 refine qaa rfl rfl c2 ?_
 conv=>whnf
 refine qbx (fun g=> ?_) (fun g=> ?_)
 ·rw [qdb,decide_eq_true_eq] at g
  conv=>whnf
  refine qaa rfl rfl (qs7 1 (by omega)) ?_
  conv=>whnf
  refine qad (by kernel_rfl) ?_
  conv=>whnf
  unfold dv
  rw [if_pos g]
  exact ⟨⟨rfl,rfl,trivial⟩,⟨rfl,rfl,trivial⟩,trivial⟩
 ·rw [qdb,decide_eq_false_iff_not] at g
  conv=>whnf
  refine qad (by kernel_rfl) ?_
  conv=>whnf
  unfold dv
  rw [if_neg g]
  exact ⟨⟨rfl,rfl,trivial⟩,⟨rfl,rfl,trivial⟩,trivial⟩
theorem qu1(v:Nat):(nb v==(⟨#[1]⟩:ByteArray))=decide (v=1):=by
 rw [qbM,decide_eq_decide,show (⟨#[1]⟩:ByteArray)=nb 1 from by decide]
 exact ⟨quA,fun h=>by rw [h]⟩
theorem qhY(x:Int)(b:Nat)(hx:(nb x.natAbs).size<200000000000)(hb:(nb b).size<200000000000)(h0:b≠0):Fun Tryz.prog 162 [zD x,zD (b:Int)] [qas (mkRat x b)] :=by
 have c1:=qjc (ng x) (nb x.natAbs) (by omega)
 have c2:=qjc false (nb b) (by omega)
 rw [qbo,qhg] at c1
 rw [qbo,show sg false b=(b:Int) from rfl,qb3] at c2
 have c3:=qBd (ng x) false (nb x.natAbs) (nb b) (by omega) (by omega) (by rw [qbo];exact h0)
 rw [qbo,qbo] at c3
 obtain ⟨p1,p2⟩:=qdM x h0
 have hG0:Nat.gcd x.natAbs b≠0:=fun h=>h0 (Nat.gcd_eq_zero_iff.1 h).2
 have hGb:Nat.gcd x.natAbs b<=b:=Nat.le_of_dvd (by omega) (Nat.gcd_dvd_right _ _)
 have ec:x=0->canon (mkRat x b)=⟨false,emp,emp⟩:=fun h=>by
  rw [h,Rat.zero_mkRat];decide
 have e1:=qmn (mkRat x b)
 have e2:=ql0 (mkRat x b)
 have e3:=qjj (mkRat x b)
 rw [p1] at e1 e2
 rw [p2] at e3
 generalize Nat.gcd x.natAbs b=G at*
 have c4:=qtT x G (by omega) (by have:=qeR hGb;omega) hG0
 have c5:=qtT (b:Int) G (by rw [Int.natAbs_natCast];omega) (by have:=qeR hGb;omega) hG0
 rw [qb3] at c3 c4 c5
 rw [qb3] at c5
 rw [show (b:Int)/(G:Int)=((b/G:Nat):Int) from rfl,qb3] at c5
 rw [qb3]
 generalize mkRat x b=Q at*
 refine qac (fun t=>t==2||t==3) mixed tOk Tryz.func162 rfl rfl ?_
 conv=>whnf
 refine qab c1 ?_
 conv=>whnf
 refine qab c2 ?_
 conv=>whnf
 refine qad (by kernel_rfl) ?_
 conv=>whnf
 refine qbx (fun g=> ?_) (fun g=> ?_)
 ·rw [qdb,decide_eq_true_eq] at g
  conv=>whnf
  refine ⟨?_,trivial⟩
  rw [qaO]
  conv=>whnf
  rw [ec (by omega)]
  exact ⟨rfl,rfl,rfl,trivial⟩
 ·rw [qdb,decide_eq_false_iff_not] at g
  conv=>whnf
  refine qaa rfl rfl c3 ?_
  conv=>whnf
  refine qaa rfl rfl c4 ?_
  conv=>whnf
  refine qaa rfl rfl c5 ?_
  conv=>whnf
  generalize x/(G:Int)=u at*
  generalize b/G=v at*
  have f2:ng u=qd4 Q:=by rw [qbs];exact e2.symm
  refine qbx (fun g2=> ?_) (fun g2=> ?_)
  ·rw [qu1] at g2
   rw [if_neg (by simpa using g2)] at e3
   conv=>whnf
   refine ⟨?_,trivial⟩
   conv=>whnf
   exact ⟨f2,e1.symm,e3.symm,trivial⟩
  ·rw [qu1] at g2
   rw [if_pos (by simpa using g2)] at e3
   conv=>whnf
   refine ⟨?_,trivial⟩
   conv=>whnf
   exact ⟨f2,e1.symm,e3.symm,trivial⟩
theorem qcF(a b:Nat):(nb (a*b)).size<=(nb a).size+(nb b).size:=by
 have h1:=qaV (nbl a)
 have h2:=qaV (nbl b)
 rw [qct] at h1 h2
 have:=Nat.mul_lt_mul'' h1 h2
 rw [<-Nat.pow_add] at this
 exact qba this
theorem qra(a b k:Nat)(ha:(nb a).size<=k)(hb:(nb b).size<=k):(nb (a+b)).size<=k+1:=by
 have h1:=qaV (nbl a)
 have h2:=qaV (nbl b)
 rw [qct] at h1 h2
 have h3:=Nat.pow_le_pow_right (n:=256) (by omega) (show (nbl a).length<=k from ha)
 have h4:=Nat.pow_le_pow_right (n:=256) (by omega) (show (nbl b).length<=k from hb)
 exact qba (by rw [Nat.pow_succ];omega)
theorem qkv(r:RD):(nb (iv r.neg r.num).natAbs).size<=r.num.size:=qku r.neg r.num
theorem qkr(r:RD):(nb (dv r.den)).size<=r.den.size\/(nb (dv r.den)).size<=1:=by
 unfold dv
 split
 ·exact .inr (by decide)
 ·exact .inl (qey r.den)
theorem qhC(x y:Int)(hx:(nb x.natAbs).size<400000000000)(hy:(nb y.natAbs).size<400000000000):Fun Tryz.prog 163 [zD x,zD y] [zD (x*y)] :=by
 have:=qAN (ng x) (ng y) (nb x.natAbs) (nb y.natAbs) hx hy
 rwa [qbo,qbo,qhg,qhg] at this
theorem qAp(x y:Int):Fun Tryz.prog 239 [zD x,zD y] [i64 (qgK x y)] :=by
 have:=qvm (ng x) (ng y) (nb x.natAbs) (nb y.natAbs)
 rwa [qbo,qbo,qhg,qhg] at this
theorem qdG{r:RD}(h1:r.num.size<=3)(h2:r.den.size<=3): -16777216<iv r.neg r.num/\iv r.neg r.num<16777216/\0<dv r.den/\dv r.den<16777216:=by
 have a1:bv r.num<256^r.num.size:=qaV _
 have a2:=Nat.pow_le_pow_right (n:=256) (by omega) h1
 have b1:bv r.den<256^r.den.size:=qaV _
 have b2:=Nat.pow_le_pow_right (n:=256) (by omega) h2
 have a3:(256:Nat)^3=16777216:=rfl
 have:=qcr r.den
 refine ⟨?_, ?_,this, ?_⟩
 ·unfold iv;split<;>omega
 ·unfold iv;split<;>omega
 ·unfold dv;split<;>omega
theorem pbd{x y:Int}(h1:x.natAbs<16777216)(h2:y.natAbs<16777216): -281474976710656<x*y/\x*y<281474976710656:=by
 have:=Nat.mul_lt_mul'' h1 h2
 rw [<-Int.natAbs_mul] at this
 omega
theorem qkZ(r:RD):r.val=mkRat (iv r.neg r.num) (dv r.den):=rfl
set_option maxHeartbeats 2000000 in
theorem quZ(r s:RD)(hr:Sz r)(hs:Sz s):Fun Tryz.prog 158 [rdD r,rdD s] [qas (r.val+s.val)] :=by
 obtain ⟨r1,r2⟩:=hr
 obtain ⟨s1,s2⟩:=hs
 rw [qkZ,qkZ,Rat.mkRat_add_mkRat _ _ (by have:=qcr r.den;omega) (by have:=qcr s.den;omega)]
 have b1:=qdG (r:=r)
 have b2:=qdG (r:=s)
 have t1:=qlv r
 have t2:=qlv s
 have f1:=ql3 r
 have f2:=ql3 s
 have q1:=qc4 r (by omega) (by omega)
 have q2:=qc4 s (by omega) (by omega)
 have z1:=qkv r
 have z2:=qkv s
 have z3:=qkr r
 have z4:=qkr s
 have d1:=qcr r.den
 have d2:=qcr s.den
 generalize iv r.neg r.num=x at*
 generalize iv s.neg s.num=y at*
 generalize dv r.den=a at*
 generalize dv s.den=b at*
 have m1:=qcF x.natAbs b
 have m2:=qcF y.natAbs a
 have m3:=qcF a b
 have e1:(x*(b:Int)).natAbs=x.natAbs*b:=by rw [Int.natAbs_mul,Int.natAbs_natCast]
 have e2:(y*(a:Int)).natAbs=y.natAbs*a:=by rw [Int.natAbs_mul,Int.natAbs_natCast]
 have m4:=qra (x.natAbs*b) (y.natAbs*a) 199999999998 (by omega) (by omega)
 have m5:(nb (x*(b:Int)+y*(a:Int)).natAbs).size<=199999999999:=by
  have:=qeR (show (x*(b:Int)+y*(a:Int)).natAbs<=x.natAbs*b+y.natAbs*a by omega)
  omega
 have w1:=qhC x (b:Int) (by omega) (by rw [Int.natAbs_natCast];omega)
 have w2:=qhC y (a:Int) (by omega) (by rw [Int.natAbs_natCast];omega)
 have w3:=quC (x*(b:Int)) (y*(a:Int)) (by rw [e1];omega) (by rw [e2];omega)
 have w4:=qhC (a:Int) (b:Int) (by rw [Int.natAbs_natCast];omega) (by rw [Int.natAbs_natCast];omega)
 rw [show (a:Int)*(b:Int)=((a*b:Nat):Int) by push_cast;rfl] at w4
 have w5:=qhY (x*(b:Int)+y*(a:Int)) (a*b) (by omega) (by omega) (by have:=Nat.mul_pos d1 d2;omega)
 refine qac (fun t=>false) mixed tOk Tryz.func158 rfl rfl ?_
 conv=>whnf
 by_cases hA:r.num.size<=3/\r.den.size<=3
 ·refine qaa rfl rfl (t1 hA.1 hA.2) ?_
  conv=>whnf
  by_cases hB:s.num.size<=3/\s.den.size<=3
  ·refine qaa rfl rfl (t2 hB.1 hB.2) ?_
   conv=>whnf
   obtain ⟨i1,i2,i3,i4⟩:=b1 hA.1 hA.2
   obtain ⟨j1,j2,j3,j4⟩:=b2 hB.1 hB.2
   have k1:=pbd (x:=x) (y:=(b:Int)) (by omega) (by omega)
   have k2:=pbd (x:=y) (y:=(a:Int)) (by omega) (by omega)
   have k3:=pbd (x:=(a:Int)) (y:=(b:Int)) (by omega) (by omega)
   have k4:=Nat.mul_pos d1 d2
   have k5:(a:Int)*(b:Int)=((a*b:Nat):Int):=by push_cast;rfl
   refine qak (by omega) ?_
   conv=>whnf
   refine qak (by omega) ?_
   conv=>whnf
   refine qak (by omega) ?_
   conv=>whnf
   refine qak (by omega) ?_
   conv=>whnf
   rw [k5] at k3 ⊢
   have pk:=qlS (x*(b:Int)+y*(a:Int)) ((a*b:Nat):Int) (by omega) (by omega)
   rw [Int.toNat_natCast] at pk
   refine qaa rfl rfl pk ?_
   conv=>whnf
   exact ⟨⟨rfl,rfl,rfl,trivial⟩,trivial⟩
  ·refine qaa rfl rfl (f2 hB) ?_
   conv=>whnf
   refine qaa rfl rfl q1 ?_
   conv=>whnf
   refine qaa rfl rfl q2 ?_
   conv=>whnf
   refine qab w1 ?_
   conv=>whnf
   refine qab w2 ?_
   conv=>whnf
   refine qab w3 ?_
   conv=>whnf
   refine qab w4 ?_
   conv=>whnf
   refine qab w5 ?_
   conv=>whnf
   refine qad (by kernel_rfl) ?_
   conv=>whnf
   exact ⟨⟨rfl,rfl,rfl,trivial⟩,trivial⟩
 ·refine qaa rfl rfl (f1 hA) ?_
  conv=>whnf
  by_cases hB:s.num.size<=3/\s.den.size<=3
  ·refine qaa rfl rfl (t2 hB.1 hB.2) ?_
   conv=>whnf
   refine qaa rfl rfl q1 ?_
   conv=>whnf
   refine qaa rfl rfl q2 ?_
   conv=>whnf
   refine qab w1 ?_
   conv=>whnf
   refine qab w2 ?_
   conv=>whnf
   refine qab w3 ?_
   conv=>whnf
   refine qab w4 ?_
   conv=>whnf
   refine qab w5 ?_
   conv=>whnf
   refine qad (by kernel_rfl) ?_
   conv=>whnf
   exact ⟨⟨rfl,rfl,rfl,trivial⟩,trivial⟩
  ·refine qaa rfl rfl (f2 hB) ?_
   conv=>whnf
   refine qaa rfl rfl q1 ?_
   conv=>whnf
   refine qaa rfl rfl q2 ?_
   conv=>whnf
   refine qab w1 ?_
   conv=>whnf
   refine qab w2 ?_
   conv=>whnf
   refine qab w3 ?_
   conv=>whnf
   refine qab w4 ?_
   conv=>whnf
   refine qab w5 ?_
   conv=>whnf
   refine qad (by kernel_rfl) ?_
   conv=>whnf
   exact ⟨⟨rfl,rfl,rfl,trivial⟩,trivial⟩
theorem qtj(a:Nat):(((a:Int)).natAbs)=a:=Int.natAbs_natCast a
set_option maxHeartbeats 2000000 in
theorem quN(r s:RD)(hr:Sz r)(hs:Sz s):Fun Tryz.prog 101 [rdD r,rdD s] [qas (r.val*s.val)] :=by
 obtain ⟨r1,r2⟩:=hr
 obtain ⟨s1,s2⟩:=hs
 rw [qkZ,qkZ,Rat.mkRat_mul_mkRat]
 have b1:=qdG (r:=r)
 have b2:=qdG (r:=s)
 have t1:=qlv r
 have t2:=qlv s
 have f1:=ql3 r
 have f2:=ql3 s
 have q1:=qc4 r (by omega) (by omega)
 have q2:=qc4 s (by omega) (by omega)
 have z1:=qkv r
 have z2:=qkv s
 have z3:=qkr r
 have z4:=qkr s
 have d1:=qcr r.den
 have d2:=qcr s.den
 generalize iv r.neg r.num=x at*
 generalize iv s.neg s.num=y at*
 generalize dv r.den=a at*
 generalize dv s.den=b at*
 have m1:=qcF x.natAbs y.natAbs
 have m3:=qcF a b
 have e1:(x*y).natAbs=x.natAbs*y.natAbs:=Int.natAbs_mul x y
 have w1:=qhC x y (by omega) (by omega)
 have w4:=qhC (a:Int) (b:Int) (by rw [qtj];omega) (by rw [qtj];omega)
 rw [show (a:Int)*(b:Int)=((a*b:Nat):Int) by push_cast;rfl] at w4
 have w5:=qhY (x*y) (a*b) (by rw [e1];omega) (by omega) (by have:=Nat.mul_pos d1 d2;omega)
 refine qac (fun t=>false) mixed tOk Tryz.func101 rfl rfl ?_
 conv=>whnf
 by_cases hA:r.num.size<=3/\r.den.size<=3
 ·refine qaa rfl rfl (t1 hA.1 hA.2) ?_
  conv=>whnf
  by_cases hB:s.num.size<=3/\s.den.size<=3
  ·refine qaa rfl rfl (t2 hB.1 hB.2) ?_
   conv=>whnf
   obtain ⟨i1,i2,i3,i4⟩:=b1 hA.1 hA.2
   obtain ⟨j1,j2,j3,j4⟩:=b2 hB.1 hB.2
   have k1:=pbd (x:=x) (y:=y) (by omega) (by omega)
   have k3:=pbd (x:=(a:Int)) (y:=(b:Int)) (by omega) (by omega)
   have k4:=Nat.mul_pos d1 d2
   have k5:(a:Int)*(b:Int)=((a*b:Nat):Int):=by push_cast;rfl
   refine qak (by omega) ?_
   conv=>whnf
   refine qak (by omega) ?_
   conv=>whnf
   rw [k5] at k3 ⊢
   have pk:=qlS (x*y) ((a*b:Nat):Int) (by omega) (by omega)
   rw [Int.toNat_natCast] at pk
   refine qaa rfl rfl pk ?_
   conv=>whnf
   exact ⟨⟨rfl,rfl,rfl,trivial⟩,trivial⟩
  ·refine qaa rfl rfl (f2 hB) ?_
   conv=>whnf
   refine qaa rfl rfl q1 ?_
   conv=>whnf
   refine qaa rfl rfl q2 ?_
   conv=>whnf
   refine qab w1 ?_
   conv=>whnf
   refine qab w4 ?_
   conv=>whnf
   refine qab w5 ?_
   conv=>whnf
   refine qad (by kernel_rfl) ?_
   conv=>whnf
   exact ⟨⟨rfl,rfl,rfl,trivial⟩,trivial⟩
 ·refine qaa rfl rfl (f1 hA) ?_
  conv=>whnf
  by_cases hB:s.num.size<=3/\s.den.size<=3
  ·refine qaa rfl rfl (t2 hB.1 hB.2) ?_
   conv=>whnf
   refine qaa rfl rfl q1 ?_
   conv=>whnf
   refine qaa rfl rfl q2 ?_
   conv=>whnf
   refine qab w1 ?_
   conv=>whnf
   refine qab w4 ?_
   conv=>whnf
   refine qab w5 ?_
   conv=>whnf
   refine qad (by kernel_rfl) ?_
   conv=>whnf
   exact ⟨⟨rfl,rfl,rfl,trivial⟩,trivial⟩
  ·refine qaa rfl rfl (f2 hB) ?_
   conv=>whnf
   refine qaa rfl rfl q1 ?_
   conv=>whnf
   refine qaa rfl rfl q2 ?_
   conv=>whnf
   refine qab w1 ?_
   conv=>whnf
   refine qab w4 ?_
   conv=>whnf
   refine qab w5 ?_
   conv=>whnf
   refine qad (by kernel_rfl) ?_
   conv=>whnf
   exact ⟨⟨rfl,rfl,rfl,trivial⟩,trivial⟩
theorem qAP(r s:RD):qdr r.val s.val=qgK (iv r.neg r.num*dv s.den) (iv s.neg s.num*dv r.den):=qqT r s
set_option maxHeartbeats 2000000 in
theorem qnG(r s:RD)(hr:Sz r)(hs:Sz s):Fun Tryz.prog 166 [rdD r,rdD s] [i64 (qdr r.val s.val)] :=by
 obtain ⟨r1,r2⟩:=hr
 obtain ⟨s1,s2⟩:=hs
 rw [qAP]
 have b1:=qdG (r:=r)
 have b2:=qdG (r:=s)
 have t1:=qlv r
 have t2:=qlv s
 have f1:=ql3 r
 have f2:=ql3 s
 have q1:=qc4 r (by omega) (by omega)
 have q2:=qc4 s (by omega) (by omega)
 have z1:=qkv r
 have z2:=qkv s
 have z3:=qkr r
 have z4:=qkr s
 have d1:=qcr r.den
 have d2:=qcr s.den
 generalize iv r.neg r.num=x at*
 generalize iv s.neg s.num=y at*
 generalize dv r.den=a at*
 generalize dv s.den=b at*
 have m1:=qcF x.natAbs b
 have m2:=qcF y.natAbs a
 have w1:=qhC x (b:Int) (by omega) (by rw [qtj];omega)
 have w2:=qhC y (a:Int) (by omega) (by rw [qtj];omega)
 have w3:=qAp (x*(b:Int)) (y*(a:Int))
 refine qac (fun t=>false) mixed tOk Tryz.func166 rfl rfl ?_
 conv=>whnf
 by_cases hA:r.num.size<=3/\r.den.size<=3
 ·refine qaa rfl rfl (t1 hA.1 hA.2) ?_
  conv=>whnf
  by_cases hB:s.num.size<=3/\s.den.size<=3
  ·refine qaa rfl rfl (t2 hB.1 hB.2) ?_
   conv=>whnf
   obtain ⟨i1,i2,i3,i4⟩:=b1 hA.1 hA.2
   obtain ⟨j1,j2,j3,j4⟩:=b2 hB.1 hB.2
   have k1:=pbd (x:=x) (y:=(b:Int)) (by omega) (by omega)
   have k2:=pbd (x:=y) (y:=(a:Int)) (by omega) (by omega)
   refine qak (by omega) ?_
   conv=>whnf
   refine qak (by omega) ?_
   conv=>whnf
   unfold qgK
   refine qaf (fun g=> ?_) (fun g=> ?_)
   ·conv=>whnf
    refine ⟨?_,trivial⟩
    conv=>whnf
    rw [if_pos g]
   ·conv=>whnf
    refine qak (by omega) ?_
    conv=>whnf
    refine qak (by omega) ?_
    conv=>whnf
    refine qaf (fun g2=> ?_) (fun g2=> ?_)
    ·conv=>whnf
     refine ⟨?_,trivial⟩
     conv=>whnf
     rw [if_neg g,if_pos (by omega)]
    ·conv=>whnf
     refine ⟨?_,trivial⟩
     conv=>whnf
     rw [if_neg g,if_neg (by omega)]
  ·refine qaa rfl rfl (f2 hB) ?_
   conv=>whnf
   refine qaa rfl rfl q1 ?_
   conv=>whnf
   refine qaa rfl rfl q2 ?_
   conv=>whnf
   refine qab w1 ?_
   conv=>whnf
   refine qab w2 ?_
   conv=>whnf
   refine qab w3 ?_
   conv=>whnf
   refine qad (by kernel_rfl) ?_
   conv=>whnf
   exact ⟨rfl,trivial⟩
 ·refine qaa rfl rfl (f1 hA) ?_
  conv=>whnf
  by_cases hB:s.num.size<=3/\s.den.size<=3
  ·refine qaa rfl rfl (t2 hB.1 hB.2) ?_
   conv=>whnf
   refine qaa rfl rfl q1 ?_
   conv=>whnf
   refine qaa rfl rfl q2 ?_
   conv=>whnf
   refine qab w1 ?_
   conv=>whnf
   refine qab w2 ?_
   conv=>whnf
   refine qab w3 ?_
   conv=>whnf
   refine qad (by kernel_rfl) ?_
   conv=>whnf
   exact ⟨rfl,trivial⟩
  ·refine qaa rfl rfl (f2 hB) ?_
   conv=>whnf
   refine qaa rfl rfl q1 ?_
   conv=>whnf
   refine qaa rfl rfl q2 ?_
   conv=>whnf
   refine qab w1 ?_
   conv=>whnf
   refine qab w2 ?_
   conv=>whnf
   refine qab w3 ?_
   conv=>whnf
   refine qad (by kernel_rfl) ?_
   conv=>whnf
   exact ⟨rfl,trivial⟩
theorem qw9(s:RD):(⟨!s.neg,s.num,s.den⟩:RD).val= -s.val:=by
 rw [qcv,qcv,Rat.neg_mkRat]
 congr 1
 unfold sg;cases s.neg<;>simp
theorem qzd(r s:RD)(hr:Sz r)(hs:Sz s):Fun Tryz.prog 100 [rdD r,rdD s] [qas (r.val-s.val)] :=by
 have e:r.val+(⟨!s.neg,s.num,s.den⟩:RD).val=r.val-s.val:=by rw [qw9,Rat.sub_eq_add_neg]
 refine qac (fun t=>t==3) mixed tOk Tryz.func100 rfl rfl ?_
 conv=>whnf
 refine qa5 rfl rfl (quZ r ⟨!s.neg,s.num,s.den⟩ hr hs) (by simp only [qdO];rfl) ?_
 conv=>whnf
 rw [e]
 exact ⟨⟨rfl,rfl,rfl,trivial⟩,trivial⟩
theorem qwR(r:RD)(hr:Sz r):Fun Tryz.prog 200 [rdD r] [i64 (qfY r.val)] :=by
 have h0:Sz ⟨false,⟨#[]⟩,⟨#[]⟩⟩:=⟨by decide,by decide⟩
 have c:=qnG r ⟨false,⟨#[]⟩,⟨#[]⟩⟩ hr h0
 have e:qdr r.val (⟨false,⟨#[]⟩,⟨#[]⟩⟩:RD).val=qfY r.val:=by
  have:(⟨false,⟨#[]⟩,⟨#[]⟩⟩:RD).val=0:=by decide
  rw [this,qd6,qde];rfl
 rw [e] at c
 refine qac (fun t=>false) mixed tOk Tryz.func200 rfl rfl ?_
 conv=>whnf
 refine qaa rfl rfl c ?_
 conv=>whnf
 exact ⟨rfl,trivial⟩
theorem qqq(r:RD)(hr:Sz r):Fun Tryz.prog 217 [rdD r] [qas r.val] :=by
 obtain ⟨r1,r2⟩:=hr
 have z1:=qkv r
 have z3:=qkr r
 have d1:=qcr r.den
 refine qac (fun t=>false) mixed tOk Tryz.func217 rfl rfl ?_
 conv=>whnf
 by_cases hA:r.num.size<=3/\r.den.size<=3
 ·obtain ⟨i1,i2,i3,i4⟩:=qdG hA.1 hA.2
  refine qaa rfl rfl (qlv r hA.1 hA.2) ?_
  conv=>whnf
  have pk:=qlS (iv r.neg r.num) (dv r.den:Nat) (by omega) (by omega)
  rw [Int.toNat_natCast] at pk
  refine qaa rfl rfl pk ?_
  conv=>whnf
  exact ⟨⟨rfl,rfl,rfl,trivial⟩,trivial⟩
 ·refine qaa rfl rfl (ql3 r hA) ?_
  conv=>whnf
  refine qaa rfl rfl (qc4 r (by omega) (by omega)) ?_
  conv=>whnf
  refine qaa rfl rfl (qhY (iv r.neg r.num) (dv r.den) (by omega) (by omega) (by omega)) ?_
  conv=>whnf
  exact ⟨⟨rfl,rfl,rfl,trivial⟩,trivial⟩
theorem qvB(q:Rat)(r:RD):qdD [.v (.bool (qd4 q)),.v (.string (qeo q)),.v (.string (qeg q))] [.v (.bool r.neg),.v (.string r.num),.v (.string r.den)] =decide (canon q=r):=by
 unfold qd4 qeo qeg;exact qqc (canon q) r
theorem qnj(r:RD)(hr:Sz r):Fun Tryz.prog 151 [rdD r] [i64 (okN r)] :=by
 refine qac (fun t=>false) mixed tOk Tryz.func151 rfl rfl ?_
 conv=>whnf
 refine qab (qqq r hr) ?_
 conv=>whnf
 refine qad (by kernel_rfl) ?_
 conv=>whnf
 have e:qdD [D.v (.bool (qd4 r.val)),.v (.string (qeo r.val)),.v (.string (qeg r.val))] (List.take qEq.cells (List.drop 0 (rdD r).cells))=decide (canon r.val=r):=qvB _ r
 rw [e]
 refine qbx (fun h=> ?_) (fun h=> ?_)
 ·have h1: ¬canon r.val=r:=by simpa using h
  conv=>whnf
  refine ⟨?_,trivial⟩
  conv=>whnf
  unfold okN;rw [if_neg h1]
 ·have h1:canon r.val=r:=by simpa using h
  conv=>whnf
  refine ⟨?_,trivial⟩
  conv=>whnf
  unfold okN;rw [if_pos h1]
theorem qBu(S:Int)(t:Nat)(hS:S≠0):(⟨ng S,nb t,nb S.natAbs⟩:RD).val=(mkRat S t)⁻¹:=by
 rw [qcv]
 have e1:dv (nb S.natAbs)=S.natAbs:=by unfold dv;rw [qbo,if_neg (by omega)]
 simp only
 rw [e1,qbo, <-Rat.divInt_ofNat, <-Rat.divInt_ofNat,Rat.inv_divInt,qbs]
 unfold sg
 by_cases h:S<0
 ·rw [if_pos (by simpa using h),show (S.natAbs:Int)= -S by omega,Rat.neg_divInt_neg]
 ·rw [if_neg (by simpa using h),show (S.natAbs:Int)=S by omega]
theorem qzH(r s:RD)(hr:Sz r)(hs:Sz s)(h0:s.val≠0):Fun Tryz.prog 277 [rdD r,rdD s] [qas (r.val/s.val),i64 0] :=by
 have hS:iv s.neg s.num≠0:=by
  intro h
  apply h0
  rw [qkZ,h,Rat.zero_mkRat]
 have z1:=qkv s
 have z2:=qkr s
 have c1:=qc4 s (by have:=hs.1;omega) (by have:=hs.2;omega)
 have e:r.val/s.val=r.val*(⟨ng (iv s.neg s.num),nb (dv s.den),nb (iv s.neg s.num).natAbs⟩:RD).val:=by
  rw [qBu _ _ hS,Rat.div_def];rfl
 have hz:Sz ⟨ng (iv s.neg s.num),nb (dv s.den),nb (iv s.neg s.num).natAbs⟩:=⟨by have:=hs.2;simp only;omega,by have:=hs.1;simp only;omega⟩
 have c2:=quN r _ hr hz
 rw [<-e] at c2
 generalize iv s.neg s.num=S at*
 generalize dv s.den=t at*
 rw [qb3] at c1
 generalize r.val/s.val=Q at*
 refine qac (fun t=>false) mixed tOk Tryz.func277 rfl rfl ?_
 conv=>whnf
 refine qaa rfl rfl c1 ?_
 conv=>whnf
 refine qaZ (by rw [qdb];simpa using hS) ?_
 conv=>whnf
 refine qaa rfl rfl c2 ?_
 conv=>whnf
 exact ⟨⟨rfl,rfl,rfl,trivial⟩,rfl,trivial⟩
theorem qnD{p q:Rat}(hp:Q p)(hq:Q q):Fun Tryz.prog 158 [qas p,qas q] [qas (p+q)] :=by
 have:=quZ (canon p) (canon q) hp.sz hq.sz
 rwa [qar,qar, <-qaO, <-qaO] at this
theorem qhB{p q:Rat}(hp:Q p)(hq:Q q):Fun Tryz.prog 101 [qas p,qas q] [qas (p*q)] :=by
 have:=quN (canon p) (canon q) hp.sz hq.sz
 rwa [qar,qar, <-qaO, <-qaO] at this
theorem qpD{p q:Rat}(hp:Q p)(hq:Q q):Fun Tryz.prog 100 [qas p,qas q] [qas (p-q)] :=by
 have:=qzd (canon p) (canon q) hp.sz hq.sz
 rwa [qar,qar, <-qaO, <-qaO] at this
theorem qnr{p q:Rat}(hp:Q p)(hq:Q q):Fun Tryz.prog 166 [qas p,qas q] [i64 (qdr p q)] :=by
 have:=qnG (canon p) (canon q) hp.sz hq.sz
 rwa [qar,qar, <-qaO, <-qaO] at this
theorem qjU{p:Rat}(hp:Q p):Fun Tryz.prog 200 [qas p] [i64 (qfY p)] :=by
 have:=qwR (canon p) hp.sz
 rwa [qar, <-qaO] at this
theorem qAB{p q:Rat}(hp:Q p)(hq:Q q)(h0:q≠0):Fun Tryz.prog 277 [qas p,qas q] [qas (p/q),i64 0] :=by
 have:=qzH (canon p) (canon q) hp.sz hq.sz (by rw [qar];exact h0)
 rwa [qar,qar, <-qaO, <-qaO] at this
end Go.Nv
end
