import Derived.Test.YtlmmifgminkdkaaGreatNvD6
import Derived.Test.YtlmmifgminkdkaaGreatNvD1
set_option linter.all false
set_option maxRecDepth 100000
section
namespace Go.Nv
open Go.Proofs Nw
def lsN(l:List P2):Nat->Nat
 |0=>0
 |i+1=>if cmP (ix l (i+1)) (ix l (lsN l i))<0 then i+1 else lsN l i
theorem qu4(l:List P2): ∀i,lsN l i<=i
 |0=>Nat.le_refl _
 |i+1=>by
  have:=qu4 l i
  unfold lsN
  split<;>omega
theorem qtb{l:List P2}{n:Nat}(hl: ∀p∈l,BP n p)(hn:n<1000000)(h0:0<l.length)(hlen:l.length<=1000):Fun Tryz.prog 202 [.l (pL l)] [i64 (lsN l (l.length-1))] :=by
 have hll:(pL l).length=l.length:=by simp
 refine qac (fun t=>false) mixed tOk Tryz.func202 rfl rfl ?_
 conv=>whnf
 refine qah (fun t=>false) (fun i:Nat=>⟨fr 23 [(0,.d (.l (pL l))),(3,.d (i64 (lsN l i))),(4,.d (i64 (i+1:Nat)))], []⟩) (fun i=>i+1<=l.length) (fun i=>l.length-i) 0 mixed tOk (by omega) ?_ ?_
 ·refine qag ?_ ?_<;>repeat' (first|exact trivial|exact rfl|apply And.intro)
 ·intro i hi
  have hle:=qu4 l i
  conv=>whnf
  refine qaf (fun hlt=> ?_) (fun hge=> ?_)
  ·have hlt':i+1<l.length:=by omega
   have q1:=(hl _ (qbf (l:=l) (k:=i+1) h0)).q (by omega)
   have q2:=(hl _ (qbf (l:=l) (k:=lsN l i) h0)).q (by omega)
   conv=>whnf
   refine qae (pD (ix l (i+1))) (qdt hlt') (by omega) (qaA l) ?_
   conv=>whnf
   refine qae (pD (ix l (lsN l i))) (qdt (by omega)) (by omega) (qaA l) ?_
   conv=>whnf
   refine qab (qeb q1 q2) ?_
   conv=>whnf
   refine qad (by kernel_rfl) ?_
   conv=>whnf
   refine qaf (fun c1=> ?_) (fun c1=> ?_)
   ·have e:lsN l (i+1)=i+1:=by rw [lsN,if_pos c1]
    conv=>whnf
    refine qak (by omega) ?_
    conv=>whnf
    refine ⟨i+1,by omega,by omega, ?_⟩
    rw [e,show (((i+1:Nat):Int)+1)=((i+1+1:Nat):Int) from rfl]
    refine qag ?_ ?_<;>repeat' (first|exact trivial|exact rfl|apply And.intro)
   ·have e:lsN l (i+1)=lsN l i:=by rw [lsN,if_neg c1]
    conv=>whnf
    refine qak (by omega) ?_
    conv=>whnf
    refine ⟨i+1,by omega,by omega, ?_⟩
    rw [e,show (((i+1:Nat):Int)+1)=((i+1+1:Nat):Int) from rfl]
    refine qag ?_ ?_<;>repeat' (first|exact trivial|exact rfl|apply And.intro)
  ·have hiE:i=l.length-1:=by omega
   rw [<-hiE]
   conv=>whnf
   refine ⟨?_,trivial⟩
   conv=>whnf
theorem qmX(l:List P2)(hlen:l.length<=1000):Fun Tryz.prog 203 [.l (pL l)] [.l (eL (cyc l))] :=by
 have hll:(pL l).length=l.length:=by simp
 refine qac (fun t=>false) mixed tOk Tryz.func203 rfl rfl ?_
 conv=>whnf
 refine qah (fun t=>false) (fun i:Nat=>⟨fr 23 [(0,.d (.l (pL l))),(3,.own 1 0),(4,.d (i64 i))], [.dead,.row 0 214 12 160 (eL ((cyc l).take i))]⟩) (fun i=>i<=l.length) (fun i=>l.length-i) 0 mixed tOk (by omega) ?_ ?_
 ·refine qai 0 rfl ?_
  refine qag ?_ ?_<;>repeat' (first|exact trivial|exact rfl|apply And.intro)
 ·intro i hi
  conv=>whnf
  refine qaf (fun hlt=> ?_) (fun hge=> ?_)
  ·have hlt':i<l.length:=by omega
   have hm:=qb0 hlt'
   have e:eL ((cyc l).take (i+1))=eL ((cyc l).take i)++ [sD l[i] (l[(i+1)%l.length]'hm)] :=by rw [qda hlt'];simp only [eL,List.map_append,List.map_cons,List.map_nil]
   have hll2:(eL ((cyc l).take i)).length<=1000:=by simp [qbp];omega
   have hAu:Uni 12 (eL ((cyc l).take i)):=qeN _
   have hnx:=qjh hlt' hlen
   have hgt:=qfq hlt'
   generalize eL ((cyc l).take i)=A at*
   generalize l[i] =a at*
   generalize l[(i+1)%l.length] =b at*
   conv=>whnf
   refine qae (pD a) hgt (by omega) (qaA l) ?_
   conv=>whnf
   refine qab hnx ?_
   conv=>whnf
   refine qca hAu (by intro x hx;rcases List.mem_singleton.1 hx with rfl;rfl) (by simp only [maxLen,List.length_cons,List.length_nil];omega) ?_
   conv=>whnf
   refine qad (by kernel_rfl) ?_
   conv=>whnf
   refine qak (by omega) ?_
   conv=>whnf
   refine ⟨i+1,by omega,by omega, ?_⟩
   rw [e,Int.natCast_succ]
   refine qag ?_ ?_<;>repeat' (first|exact trivial|exact rfl|apply And.intro)
  ·have hiE:i=l.length:=by omega
   subst hiE
   rw [show (cyc l).take l.length=cyc l from by rw [<-qbp l];exact List.take_length]
   conv=>whnf
   refine ⟨?_,trivial⟩
   conv=>whnf
theorem qxQ{p:Rat}:qfY p<=0↔p<=0:=by
 rw [qde];unfold qpG
 by_cases h1:p<0
 ·rw [if_pos h1];exact ⟨fun _=>by grind,fun _=>by decide⟩
 ·rw [if_neg h1]
  by_cases h2:0<p
  ·rw [if_pos h2];exact ⟨fun h=>absurd h (by decide),fun h=>by grind⟩
  ·rw [if_neg h2];exact ⟨fun _=>by grind,fun _=>by decide⟩
theorem qqW{a b p:P2}(hab:a≠b):beB a b p=true↔ ∃t:Rat,0<=t/\t<=1/\lin a b t=p:=by
 unfold beB
 rw [Bool.and_eq_true,decide_eq_true_eq,decide_eq_true_eq,qfI,qxQ]
 have hd:0<(b.1-a.1)*(b.1-a.1)+(b.2-a.2)*(b.2-a.2):=qnq fun h=>hab (Prod.ext (by grind) (by grind))
 constructor
 ·rintro ⟨ho,hp⟩
  obtain ⟨D,hD⟩: ∃D,D=(b.1-a.1)*(b.1-a.1)+(b.2-a.2)*(b.2-a.2):=⟨_,rfl⟩
  rw [<-hD] at hd
  have hd0:D≠0:=by grind
  obtain ⟨t,ht⟩: ∃t,t=((p.1-a.1)*(b.1-a.1)+(p.2-a.2)*(b.2-a.2))/D:=⟨_,rfl⟩
  have htD:t*D=(p.1-a.1)*(b.1-a.1)+(p.2-a.2)*(b.2-a.2):=by rw [ht];grind
  simp only [orQ] at ho
  have e1:(p.1-a.1)*D=(b.1-a.1)*(t*D):=by rw [htD,hD];grind
  have e2:(p.2-a.2)*D=(b.2-a.2)*(t*D):=by rw [htD,hD];grind
  have f1:p.1-a.1=(b.1-a.1)*t:=by grind
  have f2:p.2-a.2=(b.2-a.2)*t:=by grind
  have hq:doQ (su a p) (su b p)= -(t*(1-t))*D:=by
   simp only [doQ,su]
   have g1:a.1-p.1= -((b.1-a.1)*t):=by grind
   have g2:a.2-p.2= -((b.2-a.2)*t):=by grind
   have g3:b.1-p.1=(b.1-a.1)*(1-t):=by grind
   have g4:b.2-p.2=(b.2-a.2)*(1-t):=by grind
   rw [g1,g2,g3,g4,hD];grind
  rw [hq] at hp
  have hk:0<=t*(1-t):=by
   by_cases h:0<=t*(1-t)
   ·exact h
   ·have:=Rat.mul_pos (show 0< -(t*(1-t)) by grind) hd
    grind
  have t0:0<=t:=by
   by_cases h:0<=t
   ·exact h
   ·have:=Rat.mul_pos (show 0< -t by grind) (show 0<1-t by grind)
    grind
  have t1:t<=1:=by
   by_cases h:t<=1
   ·exact h
   ·have:=Rat.mul_pos (show 0<t by grind) (show 0<t-1 by grind)
    grind
  exact ⟨t,t0,t1,Prod.ext (by simp only [lin];grind) (by simp only [lin];grind)⟩
 ·rintro ⟨t,t0,t1,rfl⟩
  refine ⟨by simp only [orQ,lin];grind, ?_⟩
  have hq:doQ (su a (lin a b t)) (su b (lin a b t))= -(t*(1-t))*((b.1-a.1)*(b.1-a.1)+(b.2-a.2)*(b.2-a.2)):=by
   simp only [doQ,su,lin];grind
  rw [hq]
  have:=Rat.mul_nonneg (Rat.mul_nonneg t0 (show 0<=1-t by grind)) (show 0<=(b.1-a.1)*(b.1-a.1)+(b.2-a.2)*(b.2-a.2) by grind)
  grind
theorem quU{a b p:P2}(hab:a≠b):beB a b p=qoB a b p:=by
 rw [Bool.eq_iff_iff,qqW hab,qro hab]
def Cut(a b c d:P2):Prop:= ∃s t:Rat,0<=s/\s<=1/\0<=t/\t<=1/\lin a b s=lin c d t
theorem qtC{a b c d:P2}:Cut a b c d↔ ¬Disj a b c d:=by
 constructor
 ·rintro ⟨s,t,h1,h2,h3,h4,h5⟩ h
  exact h s t h1 h2 h3 h4 h5
 ·exact qnB
theorem qne{a b p:P2}(hab:a≠b)(h:orQ a b p=0): ∃t:Rat,p=lin a b t:=by
 simp only [orQ] at h
 by_cases hx:a.1=b.1
 ·have hy:b.2-a.2≠0:=fun hy=>hab (Prod.ext hx (by grind))
  refine ⟨(p.2-a.2)/(b.2-a.2),Prod.ext ?_ ?_⟩
  ·simp only [lin]
   have hz:(b.2-a.2)*(p.1-a.1)=0:=by rw [hx] at h ⊢;grind
   rcases Rat.mul_eq_zero.1 hz with h1|h1
   ·exact absurd h1 hy
   ·rw [hx] at h1 ⊢;grind
  ·simp only [lin];grind
 ·have hn:b.1-a.1≠0:=by grind
  refine ⟨(p.1-a.1)/(b.1-a.1),Prod.ext ?_ ?_⟩
  ·simp only [lin];grind
  ·simp only [lin];grind
theorem qgV{x y:Rat}:qfY x*qfY y<0↔x*y<0:=by
 rw [qde,qde];unfold qpG
 by_cases x1:x<0
 ·rw [if_pos x1]
  by_cases y1:y<0
  ·rw [if_pos y1]
   have:=Rat.mul_pos (show 0< -x by grind) (show 0< -y by grind)
   exact ⟨fun h=>absurd h (by decide),fun h=>by grind⟩
  ·rw [if_neg y1]
   by_cases y2:0<y
   ·rw [if_pos y2]
    have:=Rat.mul_pos (show 0< -x by grind) y2
    exact ⟨fun _=>by grind,fun _=>by decide⟩
   ·rw [if_neg y2]
    have:y=0:=by grind
    subst this
    exact ⟨fun h=>absurd h (by decide),fun h=>by grind⟩
 ·rw [if_neg x1]
  by_cases x2:0<x
  ·rw [if_pos x2]
   by_cases y1:y<0
   ·rw [if_pos y1]
    have:=Rat.mul_pos x2 (show 0< -y by grind)
    exact ⟨fun _=>by grind,fun _=>by decide⟩
   ·rw [if_neg y1]
    by_cases y2:0<y
    ·rw [if_pos y2]
     have:=Rat.mul_pos x2 y2
     exact ⟨fun h=>absurd h (by decide),fun h=>by grind⟩
    ·rw [if_neg y2]
     have:y=0:=by grind
     subst this
     exact ⟨fun h=>absurd h (by decide),fun h=>by grind⟩
  ·rw [if_neg x2]
   have:x=0:=by grind
   subst this
   refine ⟨fun h=> ?_,fun h=>by grind⟩
   rw [Int.zero_mul] at h;exact absurd h (by decide)
theorem qwO(a b p:P2):orQ b a p= -orQ a b p:=by simp only [orQ];grind
theorem quw{x y:Rat}(h:x*y<0):0<=x/(x-y)/\x/(x-y)<=1:=by
 by_cases hx:0<x
 ·have hy:y<0:=by
   by_cases hy:y<0
   ·exact hy
   ·have:=Rat.mul_nonneg (show 0<=x by grind) (show 0<=y by grind);grind
  exact qbH (by grind) (by grind) (by grind)
 ·have hx':x<0:=by
   by_cases e:x=0
   ·subst e;grind
   ·grind
  have hy:0<y:=by
   by_cases hy:0<y
   ·exact hy
   ·have:=Rat.mul_nonneg (show 0<= -x by grind) (show 0<= -y by grind);grind
  have:=qbH (x:= -x) (y:=y-x) (by grind) (by grind) (by grind)
  have e:x/(x-y)= -x/(y-x):=by
   have h1:x-y≠0:=by grind
   have h2:y-x≠0:=by grind
   grind
  rw [e];exact this
theorem qn0{a b c d:P2}(h1:orQ a b c*orQ a b d<0)(h2:orQ c d a*orQ c d b<0):Cut a b c d:=by
 have k1:=quw h1
 have k2:=quw h2
 refine ⟨_,_,k2.1,k2.2,k1.1,k1.2, ?_⟩
 have n1:orQ a b c-orQ a b d≠0:=by
  intro h
  have e:orQ a b c=orQ a b d:=by grind
  have hs: ∀z:Rat,0<=z*z:=fun z=>by
   by_cases hz:0<=z
   ·exact Rat.mul_nonneg hz hz
   ·have:=Rat.mul_nonneg (show 0<= -z by grind) (show 0<= -z by grind);grind
  rw [e] at h1
  have:=hs (orQ a b d);grind
 have n2:orQ c d a-orQ c d b≠0:=by
  simp only [orQ] at n1 ⊢;grind
 generalize hs:orQ c d a/(orQ c d a-orQ c d b)=s
 generalize ht:orQ a b c/(orQ a b c-orQ a b d)=t
 have hs':s*(orQ c d a-orQ c d b)=orQ c d a:=by rw [<-hs];grind
 have ht':t*(orQ a b c-orQ a b d)=orQ a b c:=by rw [<-ht];grind
 have eN:orQ c d a-orQ c d b=orQ a b d-orQ a b c:=by simp only [orQ];grind
 obtain ⟨N,hN⟩: ∃N,N=orQ a b d-orQ a b c:=⟨_,rfl⟩
 rw [eN, <-hN] at hs'
 have ht2:t*N= -orQ a b c:=by rw [hN];grind
 have hN0:N≠0:=by rw [hN];grind
 have hNe:N=(b.1-a.1)*(d.2-c.2)-(b.2-a.2)*(d.1-c.1):=by rw [hN];simp only [orQ];grind
 simp only [orQ] at hs' ht2
 refine Prod.ext ?_ ?_
 ·simp only [lin]
  have:(a.1+(b.1-a.1)*s)*N=(c.1+(d.1-c.1)*t)*N:=by
   have l1:(a.1+(b.1-a.1)*s)*N=a.1*N+(b.1-a.1)*(s*N):=by grind
   have l2:(c.1+(d.1-c.1)*t)*N=c.1*N+(d.1-c.1)*(t*N):=by grind
   rw [l1,l2,hs',ht2,hNe];grind
  grind
 ·simp only [lin]
  have:(a.2+(b.2-a.2)*s)*N=(c.2+(d.2-c.2)*t)*N:=by
   have l1:(a.2+(b.2-a.2)*s)*N=a.2*N+(b.2-a.2)*(s*N):=by grind
   have l2:(c.2+(d.2-c.2)*t)*N=c.2*N+(d.2-c.2)*(t*N):=by grind
   rw [l1,l2,hs',ht2,hNe];grind
  grind
theorem Cut.symm{a b c d:P2}:Cut a b c d->Cut c d a b:=fun ⟨s,t,h1,h2,h3,h4,h5⟩=>⟨t,s,h3,h4,h1,h2,h5.symm⟩
theorem qnF{a b c d:P2}(hab:a≠b)(hcd:c≠d)(h:Cut a b c d)(hn: ¬orQ a b c*orQ a b d<0):
  (∃t:Rat,0<=t/\t<=1/\lin a b t=c)\/(∃t:Rat,0<=t/\t<=1/\lin a b t=d)\/(∃t:Rat,0<=t/\t<=1/\lin c d t=a):=by
 obtain ⟨s,t,s0,s1,t0,t1,he⟩:=h
 have hz:(1-t)*orQ a b c+t*orQ a b d=0:=by
  have h1:=ql5 a b c d t
  rw [<-he,qfy] at h1
  grind
 by_cases h1:orQ a b c=0
 ·by_cases h2:orQ a b d=0
  ·obtain ⟨γ,rfl⟩:=qne hab h1
   obtain ⟨δ,rfl⟩:=qne hab h2
   have hs:s=γ+(δ-γ)*t:=by
    have e1:=congrArg Prod.fst he
    have e2:=congrArg Prod.snd he
    simp only [lin] at e1 e2
    by_cases hx:b.1-a.1=0
    ·have hy:b.2-a.2≠0:=fun hy=>hab (Prod.ext (by grind) (by grind))
     have:(b.2-a.2)*(s-(γ+(δ-γ)*t))=0:=by grind
     rcases Rat.mul_eq_zero.1 this with h|h
     ·exact absurd h hy
     ·grind
    ·have:(b.1-a.1)*(s-(γ+(δ-γ)*t))=0:=by grind
     rcases Rat.mul_eq_zero.1 this with h|h
     ·exact absurd h hx
     ·grind
   by_cases g1:0<=γ/\γ<=1
   ·exact .inl ⟨γ,g1.1,g1.2,rfl⟩
   by_cases g2:0<=δ/\δ<=1
   ·exact .inr (.inl ⟨δ,g2.1,g2.2,rfl⟩)
   right;right
   have hm1:=Rat.mul_nonneg t0 (show 0<=1-t by grind)
   have hgd:γ≠δ:=fun e=>by rw [e] at hcd;exact hcd rfl
   have key:0<=(0-γ)/(δ-γ)/\(0-γ)/(δ-γ)<=1:=by
    by_cases hlt:γ<0
    ·have:0<δ:=by
      by_cases hd:0<δ
      ·exact hd
      ·have hd':δ<0:=by
        by_cases e:δ=0
        ·exact absurd ⟨by grind,by grind⟩ g2
        ·grind
       have n1:=Rat.mul_nonneg t0 (show 0<= -δ by grind)
       have n2:=Rat.mul_nonneg (show 0<=1-t by grind) (show 0<= -γ by grind)
       by_cases et:t=0
       ·subst et;grind
       ·have:=Rat.mul_pos (show 0<t by grind) (show 0< -δ by grind)
        grind
     exact qbH (by grind) (by grind) (by grind)
    ·have hg:1<γ:=by
      by_cases h:1<γ
      ·exact h
      ·exact absurd ⟨by grind,by grind⟩ g1
     have:δ<0:=by
      by_cases hd:δ<0
      ·exact hd
      ·have hd':1<δ:=by
        by_cases h:1<δ
        ·exact h
        ·exact absurd ⟨by grind,by grind⟩ g2
       have n1:=Rat.mul_nonneg t0 (show 0<=δ-1 by grind)
       have n2:=Rat.mul_nonneg (show 0<=1-t by grind) (show 0<=γ-1 by grind)
       by_cases et:t=0
       ·subst et;grind
       ·have:=Rat.mul_pos (show 0<t by grind) (show 0<δ-1 by grind)
        grind
     have:=qbH (x:=γ) (y:=γ-δ) (by grind) (by grind) (by grind)
     have e:(0-γ)/(δ-γ)=γ/(γ-δ):=by
      have a1:δ-γ≠0:=by grind
      have a2:γ-δ≠0:=by grind
      grind
     rw [e];exact this
   refine ⟨_,key.1,key.2, ?_⟩
   have a1:δ-γ≠0:=by grind
   generalize hk:(0-γ)/(δ-γ)=k
   have hk':k*(δ-γ)= -γ:=by rw [<-hk];grind
   refine Prod.ext ?_ ?_
   ·simp only [lin]
    have:a.1+(b.1-a.1)*γ+(a.1+(b.1-a.1)*δ-(a.1+(b.1-a.1)*γ))*k=a.1+(b.1-a.1)*(γ+k*(δ-γ)):=by grind
    rw [this,hk'];grind
   ·simp only [lin]
    have:a.2+(b.2-a.2)*γ+(a.2+(b.2-a.2)*δ-(a.2+(b.2-a.2)*γ))*k=a.2+(b.2-a.2)*(γ+k*(δ-γ)):=by grind
    rw [this,hk'];grind
  ·have ht:t=0:=by
    rw [h1] at hz
    have:t*orQ a b d=0:=by grind
    rcases Rat.mul_eq_zero.1 this with h|h
    ·exact h
    ·exact absurd h h2
   subst ht
   rw [qaw] at he
   exact .inl ⟨s,s0,s1,he⟩
 ·by_cases h2:orQ a b d=0
  ·have ht:1-t=0:=by
    rw [h2] at hz
    have:(1-t)*orQ a b c=0:=by grind
    rcases Rat.mul_eq_zero.1 this with h|h
    ·exact h
    ·exact absurd h h1
   have ht:t=1:=by grind
   subst ht
   rw [qa6] at he
   exact .inr (.inl ⟨s,s0,s1,he⟩)
  ·exfalso
   have hpos:0<orQ a b c*orQ a b d:=by
    by_cases h:orQ a b c*orQ a b d=0
    ·rcases Rat.mul_eq_zero.1 h with h|h
     ·exact absurd h h1
     ·exact absurd h h2
    ·grind
   have e1:(1-t)*(orQ a b c*orQ a b c)+t*(orQ a b c*orQ a b d)=0:=by
    have:(1-t)*(orQ a b c*orQ a b c)+t*(orQ a b c*orQ a b d)=orQ a b c*((1-t)*orQ a b c+t*orQ a b d):=by grind
    rw [this,hz];grind
   have hsq:0<orQ a b c*orQ a b c:=by
    have:=qnq (x:=orQ a b c) (y:=0) (fun h=>h1 h.1);grind
   generalize orQ a b c*orQ a b c=P at*
   generalize orQ a b c*orQ a b d=R at*
   have n1:=Rat.mul_nonneg t0 (show 0<=R by grind)
   have n2:=Rat.mul_nonneg (show 0<=1-t by grind) (show 0<=P by grind)
   by_cases et:t=0
   ·subst et;grind
   ·have:=Rat.mul_pos (show 0<t by grind) hpos
    grind
theorem qyT{a b c d:P2}(hab:a≠b)(hcd:c≠d):rmB a b c d=true↔Cut a b c d:=by
 unfold rmB
 simp only [Bool.or_eq_true,Bool.and_eq_true,decide_eq_true_eq]
 rw [qqW hab,qqW hab,qqW hcd,qqW hcd]
 have z0: ∀p q:P2,lin p q 0=p:=fun p q=>qaw p q
 have z1: ∀p q:P2,lin p q 1=q:=fun p q=>qa6 p q
 have u0:(0:Rat)<=0:=by grind
 have u1:(0:Rat)<=1:=by grind
 have u2:(1:Rat)<=1:=by grind
 constructor
 ·rintro ((((⟨t,t0,t1,h⟩|⟨t,t0,t1,h⟩)|⟨t,t0,t1,h⟩)|⟨t,t0,t1,h⟩)|⟨h1,h2⟩)
  ·exact ⟨t,0,t0,t1,u0,u1,by rw [z0];exact h⟩
  ·exact ⟨t,1,t0,t1,u1,u2,by rw [z1];exact h⟩
  ·exact ⟨0,t,u0,u1,t0,t1,by rw [z0];exact h.symm⟩
  ·exact ⟨1,t,u1,u2,t0,t1,by rw [z1];exact h.symm⟩
  ·unfold orI at h1 h2
   exact qn0 (qgV.1 h1) (qgV.1 h2)
 ·intro h
  by_cases h1:orQ a b c*orQ a b d<0
  ·by_cases h2:orQ c d a*orQ c d b<0
   ·right
    unfold orI
    exact ⟨qgV.2 h1,qgV.2 h2⟩
   ·rcases qnF hcd hab h.symm h2 with k|k|k
    ·exact .inl (.inl (.inr k))
    ·exact .inl (.inr k)
    ·exact .inl (.inl (.inl (.inl k)))
  ·rcases qnF hab hcd h h1 with k|k|k
   ·exact .inl (.inl (.inl (.inl k)))
   ·exact .inl (.inl (.inl (.inr k)))
   ·exact .inl (.inl (.inr k))
theorem qj0{a b:P2}(h:a≠b):leP (qaW a b).1 (qaW a b).2/\(qaW a b).1≠(qaW a b).2:=by
 unfold qaW
 by_cases hc:0<cmP a b
 ·rw [if_pos hc]
  refine ⟨qei (p:=a) (q:=b) fun h1=> ?_,fun e=>h e.symm⟩
  have:=qby.2 h1;omega
 ·rw [if_neg hc]
  exact ⟨qby.1 (show cmP a b<=0 by omega),h⟩
theorem qtM{p q:P2}(h:leP p q)(k:leP q p):p=q:=by
 unfold leP at*
 exact Prod.ext (by grind) (by grind)
theorem qju{a b:P2}(h:leP a b):qaW a b=(a,b):=by
 unfold qaW;rw [if_neg (by have:=qby.2 h;omega)]
theorem qpN{a b:P2}(h:leP b a)(hn:a≠b):qaW a b=(b,a):=by
 unfold qaW
 rw [if_pos]
 by_cases hc:0<cmP a b
 ·exact hc
 ·exact absurd (qtM (qby.1 (by omega)) h) hn
theorem qkM{a b:P2}(h:a≠b):qaW b a=qaW a b:=by
 by_cases hl:leP a b
 ·rw [qju hl,qpN hl (fun e=>h e.symm)]
 ·rw [qpN (qei hl) h,qju (qei hl)]
theorem qvD{a b:P2}(h:leP a b)(hn:a≠b){k:Rat}:leP a (lin a b k)↔0<=k:=by
 unfold leP at*
 simp only [lin]
 rcases h with h|⟨h1,h2⟩
 ·have hp:0<b.1-a.1:=by grind
  constructor
  ·rintro (h3|⟨h3,h4⟩)
   ·by_cases hk:0<=k
    ·exact hk
    ·have:=Rat.mul_pos hp (show 0< -k by grind);grind
   ·have:(b.1-a.1)*k=0:=by grind
    rcases Rat.mul_eq_zero.1 this with e|e<;>grind
  ·intro hk
   by_cases e:k=0
   ·subst e;right;grind
   ·left
    have:=Rat.mul_pos hp (show 0<k by grind);grind
 ·have h3:a.2<b.2:=by
   by_cases e:a.2=b.2
   ·exact absurd (Prod.ext h1 e) hn
   ·grind
  have hp:0<b.2-a.2:=by grind
  have hz:b.1-a.1=0:=by grind
  rw [hz]
  constructor
  ·rintro (h3|⟨h3,h4⟩)
   ·grind
   ·by_cases hk:0<=k
    ·exact hk
    ·have:=Rat.mul_pos hp (show 0< -k by grind);grind
  ·intro hk
   have:=Rat.mul_nonneg (show 0<=b.2-a.2 by grind) hk
   right;grind
theorem qw1{a b:P2}(h:leP a b)(hn:a≠b){k:Rat}:leP (lin a b k) b↔k<=1:=by
 unfold leP at*
 simp only [lin]
 rcases h with h|⟨h1,h2⟩
 ·have hp:0<b.1-a.1:=by grind
  constructor
  ·rintro (h3|⟨h3,h4⟩)
   ·by_cases hk:k<=1
    ·exact hk
    ·have:=Rat.mul_pos hp (show 0<k-1 by grind);grind
   ·have:(b.1-a.1)*(k-1)=0:=by grind
    rcases Rat.mul_eq_zero.1 this with e|e<;>grind
  ·intro hk
   by_cases e:k=1
   ·subst e;right;grind
   ·left
    have:=Rat.mul_pos hp (show 0<1-k by grind);grind
 ·have h3:a.2<b.2:=by
   by_cases e:a.2=b.2
   ·exact absurd (Prod.ext h1 e) hn
   ·grind
  have hp:0<b.2-a.2:=by grind
  have hz:b.1-a.1=0:=by grind
  rw [hz]
  constructor
  ·rintro (h3|⟨h3,h4⟩)
   ·grind
   ·by_cases hk:k<=1
    ·exact hk
    ·have:=Rat.mul_pos hp (show 0<k-1 by grind);grind
  ·intro hk
   have:=Rat.mul_nonneg (show 0<=b.2-a.2 by grind) (show 0<=1-k by grind)
   right;grind
theorem qqd(t:Rat):unB (1-t)=unB t:=by
 rw [Bool.eq_iff_iff,qeS,qeS]
 constructor<;>rintro ⟨h1,h2⟩<;>constructor<;>grind
theorem qrx{a b c d:P2}(h:a≠b):mtQ b a c d=mtQ a b c d:=by
 have e1:crQ (su a b) (su d c)= -crQ (su b a) (su d c):=by simp only [crQ,su];grind
 unfold mtQ
 rw [qkM h]
 by_cases h0:crQ (su b a) (su d c)=0
 ·rw [if_pos (by rw [e1,h0];grind),if_pos h0]
  have e2:crQ (su a b) (su c b)=0↔crQ (su b a) (su c a)=0:=by
   simp only [crQ,su];constructor<;>intro h<;>grind
  by_cases h2:crQ (su b a) (su c a)=0
  ·rw [if_pos (e2.2 h2),if_pos h2]
  ·rw [if_neg (fun h=>h2 (e2.1 h)),if_neg h2]
 ·rw [if_neg (by rw [e1];grind),if_neg h0]
  have k1:crQ (su c b) (su d c)/crQ (su a b) (su d c)=1-crQ (su c a) (su d c)/crQ (su b a) (su d c):=by
   have:crQ (su c b) (su d c)=crQ (su c a) (su d c)-crQ (su b a) (su d c):=by simp only [crQ,su];grind
   rw [this,e1]
   generalize crQ (su b a) (su d c)=D at*
   generalize crQ (su c a) (su d c)=N
   have: -D≠0:=by grind
   grind
  have k2:crQ (su c b) (su a b)/crQ (su a b) (su d c)=crQ (su c a) (su b a)/crQ (su b a) (su d c):=by
   have:crQ (su c b) (su a b)= -crQ (su c a) (su b a):=by simp only [crQ,su];grind
   rw [this,e1]
   generalize crQ (su b a) (su d c)=D at*
   generalize crQ (su c a) (su b a)=N
   have: -D≠0:=by grind
   grind
  rw [k1,k2,qqd]
  have e3: ∀k:Rat,lin b a (1-k)=lin a b k:=fun k=>by
   rw [qcl];congr 1;grind
  rw [e3]
theorem qqE{a b c d:P2}(h:c≠d):mtQ a b d c=mtQ a b c d:=by
 have e1:crQ (su b a) (su c d)= -crQ (su b a) (su d c):=by simp only [crQ,su];grind
 unfold mtQ
 rw [qkM h]
 by_cases h0:crQ (su b a) (su d c)=0
 ·rw [if_pos (by rw [e1,h0];grind),if_pos h0]
  have e2:crQ (su b a) (su d a)=0↔crQ (su b a) (su c a)=0:=by
   have:crQ (su b a) (su d a)=crQ (su b a) (su c a)+crQ (su b a) (su d c):=by simp only [crQ,su];grind
   rw [this,h0];constructor<;>intro h<;>grind
  by_cases h2:crQ (su b a) (su c a)=0
  ·rw [if_pos (e2.2 h2),if_pos h2]
  ·rw [if_neg (fun h=>h2 (e2.1 h)),if_neg h2]
 ·rw [if_neg (by rw [e1];grind),if_neg h0]
  have k1:crQ (su d a) (su c d)/crQ (su b a) (su c d)=crQ (su c a) (su d c)/crQ (su b a) (su d c):=by
   have:crQ (su d a) (su c d)= -crQ (su c a) (su d c):=by simp only [crQ,su];grind
   rw [this,e1]
   generalize crQ (su b a) (su d c)=D at*
   generalize crQ (su c a) (su d c)=N
   have: -D≠0:=by grind
   grind
  have k2:crQ (su d a) (su b a)/crQ (su b a) (su c d)=1-crQ (su c a) (su b a)/crQ (su b a) (su d c):=by
   have:crQ (su d a) (su b a)=crQ (su c a) (su b a)-crQ (su b a) (su d c):=by simp only [crQ,su];grind
   rw [this,e1]
   generalize crQ (su b a) (su d c)=D at*
   generalize crQ (su c a) (su b a)=N
   have: -D≠0:=by grind
   grind
  rw [k1,k2,qqd]
def bwB(a b p:P2):Bool:=decide (cmP a p<=0)&&decide (cmP p b<=0)
def fm0(a b c d:P2):Option (P2×P2):=
 if crQ (su b a) (su d c)=0 then
  (if orI a b c≠0 then none
  else if 0<cmP (qfd a c) (qgm b d) then none else some (qfd a c,qgm b d))
 else if bwB a b (lin a b (crQ (su c a) (su d c)/crQ (su b a) (su d c)))&&bwB c d (lin a b (crQ (su c a) (su d c)/crQ (su b a) (su d c))) then
  some (lin a b (crQ (su c a) (su d c)/crQ (su b a) (su d c)),lin a b (crQ (su c a) (su d c)/crQ (su b a) (su d c)))
 else none
theorem qxr{a b p:P2}:bwB a b p=true↔leP a p/\leP p b:=by
 unfold bwB;rw [Bool.and_eq_true,decide_eq_true_eq,decide_eq_true_eq,qby,qby]
theorem qrn{a b:P2}(h:leP a b)(hn:a≠b)(k:Rat):bwB a b (lin a b k)=unB k:=by
 rw [Bool.eq_iff_iff,qxr,qeS,qvD h hn,qw1 h hn]
theorem qla{a b c d:P2}(h0:crQ (su b a) (su d c)≠0):lin a b (crQ (su c a) (su d c)/crQ (su b a) (su d c))=lin c d (crQ (su c a) (su b a)/crQ (su b a) (su d c)):=by
 generalize hk:crQ (su c a) (su d c)/crQ (su b a) (su d c)=k
 generalize hm:crQ (su c a) (su b a)/crQ (su b a) (su d c)=m
 have k':k*crQ (su b a) (su d c)=crQ (su c a) (su d c):=by rw [<-hk];grind
 have m':m*crQ (su b a) (su d c)=crQ (su c a) (su b a):=by rw [<-hm];grind
 have hD:crQ (su b a) (su d c)=(b.1-a.1)*(d.2-c.2)-(b.2-a.2)*(d.1-c.1):=rfl
 have hK:crQ (su c a) (su d c)=(c.1-a.1)*(d.2-c.2)-(c.2-a.2)*(d.1-c.1):=rfl
 have hM:crQ (su c a) (su b a)=(c.1-a.1)*(b.2-a.2)-(c.2-a.2)*(b.1-a.1):=rfl
 rw [hK] at k'
 rw [hM] at m'
 generalize crQ (su b a) (su d c)=D at*
 refine Prod.ext ?_ ?_
 ·simp only [lin]
  have:(a.1+(b.1-a.1)*k)*D=(c.1+(d.1-c.1)*m)*D:=by
   have l1:(a.1+(b.1-a.1)*k)*D=a.1*D+(b.1-a.1)*(k*D):=by grind
   have l2:(c.1+(d.1-c.1)*m)*D=c.1*D+(d.1-c.1)*(m*D):=by grind
   rw [l1,l2,k',m',hD];grind
  grind
 ·simp only [lin]
  have:(a.2+(b.2-a.2)*k)*D=(c.2+(d.2-c.2)*m)*D:=by
   have l1:(a.2+(b.2-a.2)*k)*D=a.2*D+(b.2-a.2)*(k*D):=by grind
   have l2:(c.2+(d.2-c.2)*m)*D=c.2*D+(d.2-c.2)*(m*D):=by grind
   rw [l1,l2,k',m',hD];grind
  grind
theorem qyn{a b c d:P2}(h1:leP a b)(n1:a≠b)(h2:leP c d)(n2:c≠d):fm0 a b c d=mtQ a b c d:=by
 unfold fm0 mtQ
 rw [qju h1,qju h2]
 by_cases h0:crQ (su b a) (su d c)=0
 ·rw [if_pos h0,if_pos h0]
  have e:orI a b c=0↔crQ (su b a) (su c a)=0:=by rw [qfI];rfl
  by_cases hx:crQ (su b a) (su c a)=0
  ·rw [if_neg (fun h=>h (e.2 hx)),if_pos hx]
  ·rw [if_pos (fun h=>hx (e.1 h)),if_neg hx]
 ·rw [if_neg h0,if_neg h0]
  have e2:bwB c d (lin a b (crQ (su c a) (su d c)/crQ (su b a) (su d c)))=unB (crQ (su c a) (su b a)/crQ (su b a) (su d c)):=by
   rw [qla h0,qrn h2 n2]
  rw [qrn h1 n1,e2]
def fmQ(a b c d:P2):Option (P2×P2):=fm0 (qaW a b).1 (qaW a b).2 (qaW c d).1 (qaW c d).2
theorem qyY{a b c d:P2}(hab:a≠b)(hcd:c≠d):fmQ a b c d=mtQ a b c d:=by
 unfold fmQ
 have k1:=qj0 hab
 have k2:=qj0 hcd
 rw [qyn k1.1 k1.2 k2.1 k2.2]
 have m1: ∀x y:P2,mtQ (qaW a b).1 (qaW a b).2 x y=mtQ a b x y:=fun x y=>by
  unfold qaW
  split
  ·exact qrx hab
  ·rfl
 have m2: ∀x y:P2,mtQ x y (qaW c d).1 (qaW c d).2=mtQ x y c d:=fun x y=>by
  unfold qaW
  split
  ·exact qqE hcd
  ·rfl
 rw [m1,m2]
theorem qtl{a b c d:P2}(hab:a≠b)(hcd:c≠d)(h:(mtQ a b c d).isSome=true):Cut a b c d:=by
 by_cases h0:crQ (su b a) (su d c)=0
 ·have k1:=qj0 hab
  have k2:=qj0 hcd
  have ord_sub: ∀{x y p:P2},x≠y->(∃t:Rat,0<=t/\t<=1/\lin (qaW x y).1 (qaW x y).2 t=p)-> ∃t:Rat,0<=t/\t<=1/\lin x y t=p:=by
   intro x y p hn ⟨t,t0,t1,e⟩
   unfold qaW at e
   split at e
   ·exact ⟨1-t,by grind,by grind,by rw [<-e];exact (qcl x y t).symm⟩
   ·exact ⟨t,t0,t1,e⟩
  have ord_or: ∀{x y p:P2},orQ x y p=0->orQ (qaW x y).1 (qaW x y).2 p=0:=by
   intro x y p hz
   unfold qaW
   split
   ·show orQ y x p=0
    rw [qwO,hz];grind
   ·exact hz
  unfold mtQ at h
  rw [if_pos h0] at h
  by_cases hx:crQ (su b a) (su c a)=0
  ·rw [if_pos hx] at h
   by_cases hc:0<cmP (qfd (qaW a b).1 (qaW c d).1) (qgm (qaW a b).2 (qaW c d).2)
   ·rw [if_pos hc] at h;exact absurd h (by simp)
   have hle:=qby.1 (show cmP (qfd (qaW a b).1 (qaW c d).1) (qgm (qaW a b).2 (qaW c d).2)<=0 by omega)
   have oc:orQ a b c=0:=hx
   have od:orQ a b d=0:=by
    have:orQ a b d=crQ (su b a) (su c a)+crQ (su b a) (su d c):=by simp only [crQ,su,orQ];grind
    rw [this,hx,h0];grind
   --the ends of a b on the line of c d
   obtain ⟨γ,hγ⟩:=qne hab oc
   obtain ⟨δ,hδ⟩:=qne hab od
   have oa:orQ c d a=0:=by rw [hγ,hδ];simp only [orQ,lin];grind
   have ob:orQ c d b=0:=by rw [hγ,hδ];simp only [orQ,lin];grind
   have gl:leP (qaW a b).1 (qfd (qaW a b).1 (qaW c d).1)/\leP (qaW c d).1 (qfd (qaW a b).1 (qaW c d).1):=by
    unfold qfd
    split
    ·rename_i hlt;exact ⟨qby.1 (by omega),qeB _⟩
    ·rename_i hlt
     refine ⟨qeB _, ?_⟩
     by_cases hz:cmP (qaW a b).1 (qaW c d).1<=0
     ·have:=qb5.1 (show cmP (qaW a b).1 (qaW c d).1=0 by omega)
      rw [this];exact qeB _
     ·exact qei fun h=>hz (qby.2 h)
   have ll:leP (qgm (qaW a b).2 (qaW c d).2) (qaW a b).2/\leP (qgm (qaW a b).2 (qaW c d).2) (qaW c d).2:=by
    unfold qgm
    split
    ·rename_i hlt;exact ⟨qeB _,qby.1 (by omega)⟩
    ·rename_i hlt
     refine ⟨?_,qeB _⟩
     by_cases hz:cmP (qaW a b).2 (qaW c d).2<=0
     ·have:=qb5.1 (show cmP (qaW a b).2 (qaW c d).2=0 by omega)
      rw [this];exact qeB _
     ·exact qei fun h=>hz (qby.2 h)
   have e1:orQ a b (qfd (qaW a b).1 (qaW c d).1)=0/\orQ c d (qfd (qaW a b).1 (qaW c d).1)=0:=by
    have za:orQ a b a=0/\orQ a b b=0:=by simp only [orQ];constructor<;>grind
    have zc:orQ c d c=0/\orQ c d d=0:=by simp only [orQ];constructor<;>grind
    have p1:=qiL (P:=fun p=>orQ a b p=0/\orQ c d p=0) (a:=a) (b:=b) ⟨za.1,oa⟩ ⟨za.2,ob⟩
    have p2:=qiL (P:=fun p=>orQ a b p=0/\orQ c d p=0) (a:=c) (b:=d) ⟨oc,zc.1⟩ ⟨od,zc.2⟩
    exact qrd (P:=fun p=>orQ a b p=0/\orQ c d p=0) p1.1 p2.1
   generalize qfd (qaW a b).1 (qaW c d).1=g at*
   obtain ⟨s,s0,s1,es⟩:=ord_sub hab (qgS k1.2 (ord_or e1.1) gl.1 (qhe hle ll.1))
   obtain ⟨t,t0,t1,et⟩:=ord_sub hcd (qgS k2.2 (ord_or e1.2) gl.2 (qhe hle ll.2))
   exact ⟨s,t,s0,s1,t0,t1,by rw [es,et]⟩
  ·rw [if_neg hx] at h;exact absurd h (by simp)
 ·have e:=qla h0
  unfold mtQ at h
  rw [if_neg h0] at h
  split at h
  ·rename_i hu
   rw [Bool.and_eq_true,qeS,qeS] at hu
   exact ⟨_,_,hu.1.1,hu.1.2,hu.2.1,hu.2.2,e⟩
  ·exact absurd h (by simp)
theorem qzy{a b c d:P2}(hab:a≠b)(hcd:c≠d):mtB a b c d=true↔Cut a b c d:=by
 constructor
 ·intro h
  unfold mtB at h
  rw [Bool.and_eq_true] at h
  exact qtl hab hcd h.2
 ·intro h
  by_cases hm:mtB a b c d=true
  ·exact hm
  ·exact absurd (qhb (Bool.not_eq_true _▸hm) hab hcd) (qtC.1 h)
theorem qCr{a b c d:P2}(hab:a≠b)(hcd:c≠d):rmB a b c d=mtB a b c d:=by
 rw [Bool.eq_iff_iff,qyT hab hcd,qzy hab hcd]
theorem qzh{l:List P2}(h0:0<l.length):(List.range l.length).any (stB l)=decide (0<=qdA (flB l) (List.range l.length)):=by
 rw [qfL]
 rw [Bool.eq_iff_iff,List.any_eq_true,List.any_eq_true]
 have e1: ∀i,flB l ((i+1)%l.length)=stB l i:=fun i=>by
  unfold flB stB
  have e1:ix l ((i+1)%l.length+l.length-1)=ix l i:=by
   have:(i+1)%l.length+l.length-1=(i+1)%l.length+(l.length-1):=by omega
   rw [this,qbv,show i+1+(l.length-1)=i+l.length by omega,qud]
  have e2:ix l ((i+1)%l.length)=ix l (i+1):=by have:=qbv (l:=l) (i+1) 0;simpa using this
  have e3:ix l ((i+1)%l.length+1)=ix l (i+2):=qbv (l:=l) (i+1) 1
  rw [e1,e2,e3]
 constructor
 ·rintro ⟨i,hi,h⟩
  exact ⟨(i+1)%l.length,by simpa using Nat.mod_lt _ h0,by rw [e1];exact h⟩
 ·rintro ⟨i,hi,h⟩
  have hi':i<l.length:=by simpa using hi
  refine ⟨(i+(l.length-1))%l.length,by simpa using Nat.mod_lt _ h0, ?_⟩
  rw [<-e1]
  have:((i+(l.length-1))%l.length+1)%l.length=i:=by
   rw [Nat.mod_add_mod,show i+(l.length-1)+1=i+l.length by omega,Nat.add_mod_right,Nat.mod_eq_of_lt hi']
  rw [this];exact h
theorem qiP{α:Type}{l:List α}{f g:α->Bool}(h: ∀x∈l,f x=g x):l.any f=l.any g:=by
 rw [Bool.eq_iff_iff,List.any_eq_true,List.any_eq_true]
 exact ⟨fun ⟨x,h1,h2⟩=>⟨x,h1,by rw [<-h x h1];exact h2⟩,fun ⟨x,h1,h2⟩=>⟨x,h1,by rw [h x h1];exact h2⟩⟩
def rxB(l:List P2)(i k:Nat):Bool:=decide (i+2<=k)&&(!decide ((k+1)%l.length=i)&&rmB (ix l i) (ix l (i+1)) (ix l k) (ix l (k+1)))
def qtG(l:List P2):Bool:=(List.range l.length).any fun i=>(List.range l.length).any fun k=>rxB l i k
theorem quO{l:List P2}(h:(List.range l.length).any (stB l)=false){i:Nat}(hi:i<l.length):ix l i≠ix l (i+1):=by
 have:=List.any_eq_false.1 h i (by simpa using hi)
 unfold stB at this
 rw [decide_eq_true_eq,qfI] at this
 exact (qpy this).1
theorem qBc{l:List P2}(h:(List.range l.length).any (stB l)=false):qtG l=crB l:=by
 unfold qtG crB
 refine qiP fun i hi=>qiP fun k hk=> ?_
 have hi':i<l.length:=by simpa using hi
 have hk':k<l.length:=by simpa using hk
 unfold rxB xB
 rw [qCr (quO h hi') (quO h hk')]
 by_cases h2:i+2<=k
 ·have:decide ((k+1)%l.length=i)=(decide (i=0)&&decide (k=l.length-1)):=by
   rw [Bool.eq_iff_iff,Bool.and_eq_true,decide_eq_true_eq,decide_eq_true_eq,decide_eq_true_eq]
   by_cases hl:k+1<l.length
   ·rw [Nat.mod_eq_of_lt hl];omega
   ·have:k+1=l.length:=by omega
    rw [this,Nat.mod_self];omega
  rw [this];rfl
 ·rw [decide_eq_false h2];rfl
theorem qpY{l:List P2}(h:tot crQ l≠0):(qfY (tot crQ l/2)<=0)↔(qfY (tot crQ l/2)<0):=by
 have hz:qfY (tot crQ l/2)≠0:=fun e=>by
  rw [qcp] at e;apply h;grind
 omega
theorem qvc(l:List P2): ∀i,lsN l i=kf l (i+1)
 |0=>by
  unfold lsN kf kf
  split
  ·rfl
  ·rfl
 |i+1=>by
  rw [lsN,kf,qvc l i]
def frE(l:List P2):Int:=
 if l.length<3\/64<l.length then 4
 else if (List.range l.length).any (stB l)=true then 12
 else if qtG l=true then 13
 else if qfY (tot crQ l/2)<0\/(lsN l (l.length-1):Int)≠0 then 8
 else 0
theorem qBr(l:List P2):frE l=rgE l:=by
 unfold frE rgE
 by_cases h1:l.length<3\/64<l.length
 ·rw [if_pos h1,if_pos h1]
 rw [if_neg h1,if_neg h1]
 have e1:=qzh (l:=l) (by omega)
 by_cases h2:(List.range l.length).any (stB l)=true
 ·have:0<=qdA (flB l) (List.range l.length):=by rw [h2] at e1;exact of_decide_eq_true e1.symm
  rw [if_pos h2,if_pos this]
 have h2':(List.range l.length).any (stB l)=false:=by simpa using h2
 have n2: ¬0<=qdA (flB l) (List.range l.length):=by rw [h2'] at e1;exact of_decide_eq_false e1.symm
 rw [if_neg h2,if_neg n2,qBc h2']
 by_cases h3:crB l=true
 ·rw [if_pos h3,if_pos h3]
 rw [if_neg h3,if_neg h3]
 have hs:RgS l:=⟨by omega,fun i hi=>qk5 n2 hi,by simpa using h3⟩
 have ha:tot crQ l≠0:=hs.simp.area_ne
 have e2:lsN l (l.length-1)=kf l l.length:=by rw [qvc,show l.length-1+1=l.length by omega]
 rw [e2]
 have:=qpY ha
 by_cases h4:qfY (tot crQ l/2)<0\/(kf l l.length:Int)≠0
 ·rw [if_pos h4,if_pos (by omega)]
 ·rw [if_neg h4,if_neg (by omega)]
theorem qBA{l:List P2}(h:RgOk l)(p:P2):sdI l p=inV l p:=by
 have hz:=qa3.2 h
 have:(List.range l.length).any (qtc l p)=onB l p:=by
  unfold onB
  rw [Bool.eq_iff_iff,List.any_eq_true,List.any_eq_true]
  constructor
  ·rintro ⟨i,hi,hb⟩
   have hi':i<l.length:=by simpa using hi
   exact ⟨ed l i,qky hi',by unfold qtc at hb;rw [quU (h.ne i)] at hb;exact hb⟩
  ·rintro ⟨e,he,hb⟩
   obtain ⟨i,hi,rfl⟩:=qiX he
   exact ⟨i,by simpa using hi,by unfold qtc;rw [quU (h.ne i)];exact hb⟩
 unfold sdI inV
 rw [this,if_neg (c:=rgE l≠0) (fun hh=>hh hz)]
def trP(v p:P2):P2:=(p.1+v.1,p.2+v.2)
def trL(v:P2)(l:List P2):List P2:=l.map (trP v)
def trE(v:P2)(e:P2×P2):P2×P2:=(trP v e.1,trP v e.2)
theorem qwT{v p q:P2}:trP v p=trP v q↔p=q:=by
 unfold trP
 constructor
 ·intro h
  simp only [Prod.mk.injEq] at h
  exact Prod.ext (by grind) (by grind)
 ·intro h;rw [h]
theorem qvY(v p q:P2):su (trP v p) (trP v q)=su p q:=by
 unfold su trP;simp only [Prod.mk.injEq];constructor<;>grind
theorem qBn(v a b c:P2):orQ (trP v a) (trP v b) (trP v c)=orQ a b c:=by
 simp only [orQ,trP];grind
theorem qrc(v a b c:P2):orI (trP v a) (trP v b) (trP v c)=orI a b c:=by unfold orI;rw [qBn]
theorem qrC(p q a:Rat):qdr (p+a) (q+a)=qdr p q:=by
 rw [qd6,qd6];unfold qsH
 have h1:(p+a<q+a)↔p<q:=by constructor<;>grind
 have h2:(q+a<p+a)↔q<p:=by constructor<;>grind
 simp only [h1,h2]
theorem qeM(v p q:P2):cmP (trP v p) (trP v q)=cmP p q:=by
 unfold cmP trP;simp only [qrC]
theorem qqZ(v a b:P2):qaW (trP v a) (trP v b)=(trP v (qaW a b).1,trP v (qaW a b).2):=by
 unfold qaW;rw [qeM];split<;>rfl
theorem qvN(v a b:P2):qfd (trP v a) (trP v b)=trP v (qfd a b):=by unfold qfd;rw [qeM];split<;>rfl
theorem qwl(v a b:P2):qgm (trP v a) (trP v b)=trP v (qgm a b):=by unfold qgm;rw [qeM];split<;>rfl
theorem qAA(v a b c d:P2):(mtQ (trP v a) (trP v b) (trP v c) (trP v d)).isSome=(mtQ a b c d).isSome:=by
 unfold mtQ
 rw [qvY,qvY,qvY]
 by_cases h1:crQ (su b a) (su d c)=0
 ·rw [if_pos h1,if_pos h1]
  by_cases h2:crQ (su b a) (su c a)=0
  ·rw [if_pos h2,if_pos h2,qqZ,qqZ]
   simp only [qvN,qwl,qeM]
   split<;>rfl
  ·rw [if_neg h2,if_neg h2]
 ·rw [if_neg h1,if_neg h1]
  split<;>rfl
theorem quK(v a b c d:P2):mtB (trP v a) (trP v b) (trP v c) (trP v d)=mtB a b c d:=by
 unfold mtB;rw [qAA];simp only [qwT]
theorem qdc(v:P2)(l:List P2):(trL v l).length=l.length:=List.length_map ..
theorem qfl{v:P2}{l:List P2}(h:0<l.length)(i:Nat):ix (trL v l) i=trP v (ix l i):=by
 rw [qgq (l:=trL v l) (by rw [qdc];exact h),qgq h]
 simp only [qdc]
 unfold trL;rw [List.getElem_map]
theorem que(v:P2): ∀(l:List P2) (a:P2),prs (trP v a) (trL v l)=(prs a l).map (trE v)
 | [],a=>rfl
 |b::l,a=>by
  show (trP v a,trP v b)::prs (trP v b) (trL v l)=trE v (a,b)::(prs b l).map (trE v)
  rw [que v l b];rfl
theorem qki(v:P2)(l:List P2):cyc (trL v l)=(cyc l).map (trE v):=by
 cases l with
 |nil=>rfl
 |cons a l=>
  show prs (trP v a) (trL v l++ [trP v a])=(prs a (l++ [a])).map (trE v)
  rw [<-que];unfold trL;rw [List.map_append];rfl
theorem qnY(f:P2->P2->Rat)(v:P2): ∀E:List (P2×P2),qbU f (E.map (trE v))=qbU (fun p q=>f (trP v p) (trP v q)) E
 | [] =>rfl
 |e::E=>by simp only [List.map_cons,qbU];rw [qnY f v E];rfl
theorem qCM(v:P2)(l:List P2):tot ar (trL v l)=tot ar l:=by
 have e:=qki v l
 unfold tot
 rw [e,qnY]
 have c:Cob (fun p q=>ar (trP v p) (trP v q)) ar:=⟨fun p=>v.1*p.2-v.2*p.1,fun p q=>by simp only [ar,trP];grind⟩
 exact c.sum (qib l)
theorem qBI(v:P2)(l:List P2):tot crQ (trL v l)=tot crQ l:=qCM v l
theorem qzT{v:P2}{l:List P2}(h:0<l.length)(i:Nat):flB (trL v l) i=flB l i:=by
 unfold flB;rw [qdc,qfl h,qfl h,qfl h,qrc]
theorem qFl{v:P2}{l:List P2}(h:0<l.length)(i k:Nat):xB (trL v l) i k=xB l i k:=by
 unfold xB ed;rw [qdc,qfl h,qfl h,qfl h,qfl h,quK]
theorem qAS{v:P2}{l:List P2}(h:0<l.length):crB (trL v l)=crB l:=by
 unfold crB;rw [qdc]
 simp only [qFl h]
theorem qAa{v:P2}{l:List P2}(h:0<l.length): ∀i,kf (trL v l) i=kf l i
 |0=>rfl
 |i+1=>by
  unfold kf
  rw [qAa h i,qfl h,qfl h,qeM]
theorem RgOk.tr{l:List P2}(h:RgOk l)(v:P2):RgOk (trL v l):=by
 have h0:0<l.length:=by have:=h.len;omega
 refine ⟨by rw [qdc];exact h.len,fun i hi=> ?_, ?_, ?_, ?_⟩
 ·rw [qzT h0];exact h.fl i (by rw [qdc] at hi;exact hi)
 ·rw [qAS h0];exact h.cr
 ·rw [qBI];exact h.pos
 ·rw [qdc,qAa h0];exact h.fst
theorem qx0(v a b p:P2):qoB (trP v a) (trP v b) (trP v p)=qoB a b p:=by
 unfold qoB;rw [qrc,qeM,qeM,qeM]
theorem qAu(v:P2)(l:List P2)(p:P2):onB (trL v l) (trP v p)=onB l p:=by
 unfold onB;rw [qki,List.any_map]
 congr 1
 funext e
 exact qx0 v e.1 e.2 p
theorem quY(v p q:P2):abB (trP v p) (trP v q)=abB p q:=by unfold abB trP;simp only [qrC]
theorem qBK(v p:P2)(e:P2×P2):odE (trP v p) (trE v e)=odE p e:=by
 have hs:swE (trP v p) (trE v e)=trE v (swE p e):=by
  unfold swE trE
  simp only [quY]
  split<;>rfl
 unfold odE
 rw [hs]
 unfold trE
 simp only [quY,qrc]
theorem qyy(v:P2)(l:List P2)(p:P2):odB (trL v l) (trP v p)=odB l p:=by
 unfold odB;rw [qki,List.foldl_map]
 congr 1
 funext b e
 unfold odF;rw [qBK]
theorem qzc{v:P2}{l:List P2}(h:RgOk l)(p:P2):inV (trL v l) (trP v p)=inV l p:=by
 have z:=qa3.2 h
 have z':=qa3.2 (h.tr v)
 unfold inV;rw [z,z',qAu,qyy]
theorem qy5{v:P2}{l:List P2}(h:RgOk l):inE (trL v l)=inE l:=by
 have z:=qa3.2 h
 have z':=qa3.2 (h.tr v)
 unfold inE;rw [z,z']
theorem quP(v:P2)(a b:List P2):mtR (trL v a) (trL v b)=mtR a b:=by
 unfold mtR;rw [qki,qki,List.any_map]
 congr 1
 funext e
 simp only [Function.comp,List.any_map]
 congr 1
 funext f
 exact quK v e.1 e.2 f.1 f.2
theorem qqX{v:P2}{a b:List P2}(ha:RgOk a)(hb:RgOk b):wiB (trL v a) (trL v b)=wiB a b:=by
 unfold wiB;rw [qfl (by have:=ha.len;omega),qzc hb,qy5 hb]
theorem qkm{α:Type}{l:List α}{f g:α->Bool}(h: ∀x∈l,f x=g x):l.any f=l.any g:=by
 induction l with
 |nil=>rfl
 |cons a l ih=>simp only [List.any_cons];rw [h a (by simp),ih (fun x hx=>h x (by simp [hx]))]
theorem qBe{v:P2}{o:List P2}{pre:List (List P2)}{h:List P2}(ho:RgOk o)(hp: ∀x∈pre,RgOk x)(hh:RgOk h):hoE (trL v o) (pre.map (trL v)) (trL v h)=hoE o pre h:=by
 have e1:(pre.map (trL v)).any (fun x=>mtR (trL v h) x)=pre.any (fun x=>mtR h x):=by
  rw [List.any_map];exact qkm fun x hx=>quP v h x
 have e2:(pre.map (trL v)).any (fun x=>wiB (trL v h) x||wiB x (trL v h))=pre.any (fun x=>wiB h x||wiB x h):=by
  rw [List.any_map];exact qkm fun x hx=>by simp only [Function.comp];rw [qqX hh (hp x hx),qqX (hp x hx) hh]
 have e3:0<pre.length->cmP (ix ((pre.map (trL v)).getD (pre.length-1) []) 0) (ix (trL v h) 0)=cmP (ix (pre.getD (pre.length-1) []) 0) (ix h 0):=fun h0=>by
  have hl:pre.length-1<pre.length:=by omega
  rw [List.getD_eq_getElem?_getD,List.getD_eq_getElem?_getD,List.getElem?_map,List.getElem?_eq_getElem hl]
  simp only [Option.map_some,Option.getD_some]
  rw [qfl (by have:=(hp _ (List.getElem_mem hl)).len;omega),qfl (by have:=hh.len;omega),qeM]
 unfold hoE
 rw [quP,qqX hh ho,e1,e2,List.length_map]
 by_cases h0:0<pre.length
 ·rw [e3 h0]
 ·simp only [h0,false_and]
theorem qpw(l:List P2):rgR (l.map cP)=rgE l:=by
 have hl:(l.map cP).length=l.length:=List.length_map ..
 unfold rgR
 rw [qqe,if_pos rfl,qi0,hl]
 by_cases h:l.length<3\/64<l.length
 ·rw [if_pos h];unfold rgE;rw [if_pos h]
 ·rw [if_neg h]
theorem qtU{v:P2}{o:List P2}(ho:RgOk o): ∀(hs:List (List (RD×RD))) (pre:List (List P2)),hoL o pre hs=0->(∀x∈pre,RgOk x)->
  hoL (trL v o) (pre.map (trL v)) (hs.map fun h=>(trL v (h.map vP)).map cP)=0
 | [],pre,_,_=>rfl
 |h::hs,pre,e,hp=>by
  rw [hoL] at e
  split at e
  ·rename_i h1;exact absurd e h1
  rename_i h1
  split at e
  ·rename_i h2;exact absurd e h2
  rename_i h2
  have h1:rgR h=0:=Classical.not_not.1 h1
  have h2:hoE o pre (h.map vP)=0:=Classical.not_not.1 h2
  have hr:RgOk (h.map vP):=qa3.1 (qbk h1).2.1
  have ih:=qtU (v:=v) ho hs (pre++ [h.map vP]) e (fun x hx=>by
   rcases List.mem_append.1 hx with hx|hx
   ·exact hp x hx
   ·rw [List.mem_singleton.1 hx];exact hr)
  rw [List.map_cons,hoL,qpw,qa3.2 (hr.tr v),qi0,qBe ho hp hr,h2]
  simp only [ne_eq,not_true_eq_false,if_false]
  rw [List.map_append] at ih
  exact ih
theorem qzv{v:P2}{o:List (RD×RD)}{hs:List (List (RD×RD))}(h:pgE o hs=0):pgE ((trL v (o.map vP)).map cP) (hs.map fun h=>(trL v (h.map vP)).map cP)=0:=by
 obtain ⟨z1,z2,z3,z4⟩:=qgR h
 have ho:RgOk (o.map vP):=qa3.1 (qbk z1).2.1
 unfold pgE
 rw [qpw,qa3.2 (ho.tr v),qi0,List.length_map,if_neg (by simp),if_neg (by omega)]
 exact qtU ho hs [] z4 (by simp)
theorem qoQ:canon (1/2)=⟨false,⟨#[1]⟩,⟨#[2]⟩⟩:=by kernel_rfl
theorem qrm:qas (1/2)= .a [.v (.bool false),.v (.string ⟨#[1]⟩),.v (.string ⟨#[2]⟩)] :=by
 unfold qas qd4 qeo qeg
 rw [qoQ]
theorem qvz:Bd 1 (1/2:Rat):=((qdZ 1 (n:=0) (by simp)).div (qdZ 2 (n:=1) (by decide))).mono (by omega)
theorem qv3{p:Rat}{n:Nat}(hp:Bd n p)(hn:n<10000000000):Fun Tryz.prog 272 [qas p] [qas (p/2)] :=by
 have h:=qhB (p:=p) (q:=1/2) (.mk hp (by omega)) (.mk qvz (by omega))
 have e:p*(1/2)=p/2:=by grind
 rw [e] at h
 refine qac (fun t=>false) mixed tOk Tryz.func272 rfl rfl ?_
 conv=>whnf
 refine qa5 rfl rfl h ?_ ?_
 ·rw [qrm];rfl
 ·conv=>whnf
  refine ⟨?_,trivial⟩
  conv=>whnf
  exact ⟨rfl,rfl,rfl,trivial⟩
noncomputable def qxz(l:List P2)(i:Nat):St:=
 ⟨fr 24 [(0,.d (.l (pL l))),(2,.ptr 0 0 0),(3,.ptr 1 0 0),(4,.d (i64 i))],
  [.box 23 [.d (.v (.bool false)),.d (.v (.string emp)),.d (.v (.string emp))],
  .box 23 [.d (.v (.bool (qd4 (qbU crQ ((cyc l).take i))))),.d (.v (.string (qeo (qbU crQ ((cyc l).take i))))),.d (.v (.string (qeg (qbU crQ ((cyc l).take i)))))]]⟩
theorem qxy(l:List P2){n:Nat}(hl: ∀p∈l,BP n p)(hn:n<1000000)(hlen:l.length<=1000):Fun Tryz.prog 201 [.l (pL l)] [qas (tot crQ l/2)] :=by
 have hmul: ∀i,i<=l.length->i*(4*n+2)<=1000*(4*1000000+2):=fun i h=>Nat.mul_le_mul (by omega) (by omega)
 have hll:(pL l).length=l.length:=by simp
 refine qac (fun t=>t==2||t==3) mixed tOk Tryz.func201 rfl rfl ?_
 conv=>whnf
 refine qah (fun t=>t==2||t==3) (fun i:Nat=>qxz l i) (fun i=>i<=l.length) (fun i=>l.length-i) 0 mixed tOk (by omega) ?_ ?_
 ·unfold qxz
  simp only [List.take_zero,qbU,qcT,qcW,qcS]
  refine qag ?_ ?_<;>repeat' (first|exact trivial|exact rfl|apply And.intro)
 ·intro i hi
  conv=>whnf
  refine qaf (fun hlt=> ?_) (fun hge=> ?_)
  ·have hlt':i<l.length:=by rw [qcc] at hlt;omega
   have hm:=qb0 hlt'
   have b1:=hl l[i] (List.getElem_mem _)
   have b2:=hl (l[(i+1)%l.length]'hm) (List.getElem_mem _)
   have b0:=qdH hl i hi
   have hmi:=hmul _ hi
   conv=>whnf
   refine qae (pD l[i]) (qfq hlt') (by omega) (qaA l) ?_
   conv=>whnf
   refine qab (qjh hlt' hlen) ?_
   conv=>whnf
   refine qab (qg5 b1 b2 (by omega)) ?_
   conv=>whnf
   refine qab (qnD (.mk b0 (by omega)) (.mk (b1.cr b2) (by omega))) ?_
   conv=>whnf
   refine qad (by kernel_rfl) ?_
   conv=>whnf
   refine qak (by omega) ?_
   conv=>whnf
   refine ⟨i+1,by omega,by omega, ?_⟩
   unfold qxz
   rw [qda hlt',qcQ,qjo,Int.natCast_succ]
   refine qag ?_ ?_<;>repeat' (first|exact trivial|exact rfl|apply And.intro)
  ·have:i=l.length:=by rw [qcc] at hge;omega
   subst this
   have hb:Bd (1000*(4*1000000+2)) (qbU crQ ((cyc l).take l.length)):=(qdH hl _ hi).mono (hmul _ hi)
   rw [<-qge]
   conv=>whnf
   refine qaa rfl rfl (qv3 hb (by omega)) ?_
   conv=>whnf
   refine ⟨?_,trivial⟩
   conv=>whnf
   exact ⟨rfl,rfl,rfl,trivial⟩
theorem qyS{l:List P2}{i k:Nat}(h1:i<l.length)(h2:k<l.length)(h:rxB l i k=true):qtG l=true:=by
 unfold qtG
 exact List.any_eq_true.2 ⟨i,by simpa using h1,List.any_eq_true.2 ⟨k,by simpa using h2,h⟩⟩
theorem qzi{l:List P2}(h: ∀i k,i<l.length->k<l.length->rxB l i k=false):qtG l=false:=by
 unfold qtG
 rw [List.any_eq_false];intro i hi
 rw [Bool.not_eq_true,List.any_eq_false];intro k hk
 rw [h i k (by simpa using hi) (by simpa using hk)];simp
def qA3(l:List P2)(i:Nat):St:=⟨fr 43 [(0,.d (.l (pL l))),(3,.d (i64 (pL l).length)),(4,.d (i64 i))], []⟩
def qre(l:List P2)(i k:Nat):St:=⟨fr 43 [(0,.d (.l (pL l))),(3,.d (i64 (pL l).length)),(4,.d (i64 i)),(5,.d (i64 k))], []⟩
theorem qmc{l:List P2}{n:Nat}(hl: ∀p∈l,BP n p)(hn:n<1000000)(hlen:l.length<=1000):Fun Tryz.prog 199 [.l (pL l)] [.v (.bool (qtG l))] :=by
 have hll:(pL l).length=l.length:=by simp
 refine qac (fun t=>false) mixed tOk Tryz.func199 rfl rfl ?_
 conv=>whnf
 refine qah (fun t=>false) (fun i:Nat=>qA3 l i) (fun i=>i<=l.length/\ ∀j k,j<i->k<l.length->rxB l j k=false) (fun i=>l.length-i) 0 mixed tOk ⟨by omega,fun j k hj=>by omega⟩ ?_ ?_
 ·refine qag ?_ ?_<;>repeat' (first|exact trivial|exact rfl|apply And.intro)
 ·rintro i ⟨hi,hno⟩
  conv=>whnf
  refine qaf (fun hlt=> ?_) (fun hge=> ?_)
  ·have hlt':i<l.length:=by omega
   have h0:0<l.length:=by omega
   conv=>whnf
   refine qak (by omega) ?_
   conv=>whnf
   refine qah (fun t=>false) (fun k:Nat=>qre l i k) (fun k=>i+2<=k/\ ∀j,j<k->j<l.length->rxB l i j=false) (fun k=>l.length-k) (i+2) mixed tOk ⟨by omega,fun j hj _=> ?_⟩ ?_ ?_
   ·unfold rxB;rw [decide_eq_false (by omega)];rfl
   ·refine qag ?_ ?_<;>repeat' (first|exact trivial|exact rfl|apply And.intro)
   ·rintro k ⟨hk,hnok⟩
    have step:k<l.length->rxB l i k=false-> ∀j,j<k+1->j<l.length->rxB l i j=false:=fun _ h j hj hjl=>by
     by_cases hjk:j=k
     ·subst hjk;exact h
     ·exact hnok j (by omega) hjl
    conv=>whnf
    refine qaf (fun hlt2=> ?_) (fun hge2=> ?_)
    ·have hlt2':k<l.length:=by omega
     have e3:Int.tmod ((k:Int)+1) ((pL l).length:Int)=(((k+1)%l.length:Nat):Int):=by
      rw [qcc,show ((k:Int)+1)=((k+1:Nat):Int) from rfl,qck]
     have b0:=hl _ (qbf (l:=l) (k:=i) (by omega))
     have b1:=hl _ (qbf (l:=l) (k:=i+1) (by omega))
     have b2:=hl _ (qbf (l:=l) (k:=k) (by omega))
     have b3:=hl _ (qbf (l:=l) (k:=k+1) (by omega))
     conv=>whnf
     refine qak (by omega) ?_
     conv=>whnf
     refine qak (by omega) ?_
     conv=>whnf
     rw [e3]
     refine qav (fun c1=> ?_) (fun c1=> ?_)
     ·have hz:rxB l i k=rmB (ix l i) (ix l (i+1)) (ix l k) (ix l (k+1)):=by
       unfold rxB;rw [decide_eq_true hk,decide_eq_false (show¬(k+1)%l.length=i by omega)];rfl
      conv=>whnf
      refine qae (pD (ix l i)) (qdt hlt') (by omega) (qaA l) ?_
      conv=>whnf
      refine qab (qfJ hlt' hlen) ?_
      conv=>whnf
      refine qae (pD (ix l k)) (qdt hlt2') (by omega) (qaA l) ?_
      conv=>whnf
      refine qab (qfJ hlt2' hlen) ?_
      conv=>whnf
      refine qab (qtF b0 b1 b2 b3 hn) ?_
      conv=>whnf
      refine qad (by kernel_rfl) ?_
      conv=>whnf
      refine qal (fun c3=> ?_) (fun c3=> ?_)
      ·rw [qyS hlt' hlt2' (by rw [hz];exact c3)]
       conv=>whnf
       refine ⟨?_,trivial⟩
       conv=>whnf
      ·have hx:rxB l i k=false:=by rw [hz];exact c3
       conv=>whnf
       refine qak (by omega) ?_
       conv=>whnf
       refine ⟨k+1,⟨by omega,step hlt2' hx⟩,by omega, ?_⟩
       unfold qre;rw [Int.natCast_succ]
       refine qag ?_ ?_<;>repeat' (first|exact trivial|exact rfl|apply And.intro)
     ·have hx:rxB l i k=false:=by
       unfold rxB;rw [decide_eq_true (show (k+1)%l.length=i by omega)];simp
      conv=>whnf
      refine qad (by kernel_rfl) ?_
      conv=>whnf
      refine qak (by omega) ?_
      conv=>whnf
      refine ⟨k+1,⟨by omega,step hlt2' hx⟩,by omega, ?_⟩
      unfold qre;rw [Int.natCast_succ]
      refine qag ?_ ?_<;>repeat' (first|exact trivial|exact rfl|apply And.intro)
    ·conv=>whnf
     refine qak (by omega) ?_
     conv=>whnf
     refine ⟨i+1,⟨by omega,fun j k' hj hk'=> ?_⟩,by omega, ?_⟩
     ·by_cases hji:j=i
      ·subst hji;exact hnok k' (by omega) hk'
      ·exact hno j k' (by omega) hk'
     unfold qA3;rw [Int.natCast_succ]
     refine qag ?_ ?_<;>repeat' (first|exact trivial|exact rfl|apply And.intro)
  ·have:i=l.length:=by omega
   subst this
   rw [qzi (fun i k hi hk=>hno i k hi hk)]
   conv=>whnf
   refine ⟨?_,trivial⟩
   conv=>whnf
theorem qh6(l:List (RD×RD)){n:Nat}(hz: ∀p∈l,SzP p)(hl: ∀p∈l,BP n (vP p))(hn:n<1000000)(hlen:l.length<=1000):Fun Tryz.prog 141 [.l (rL l)] [i64 (rgR l)] :=by
 have hll:(rL l).length=l.length:=by simp
 refine qac (fun t=>false) mixed tOk Tryz.func141 rfl rfl ?_
 conv=>whnf
 refine qaf (fun h1=> ?_) (fun h1=> ?_)
 ·have e:rgR l=4:=by unfold rgR;rw [if_pos (by omega)]
  rw [e]
  conv=>whnf
  exact ⟨rfl,trivial⟩
 conv=>whnf
 refine qaf (fun h2=> ?_) (fun h2=> ?_)
 ·have e:rgR l=4:=by unfold rgR;rw [if_pos (by omega)]
  rw [e]
  conv=>whnf
  exact ⟨rfl,trivial⟩
 conv=>whnf
 refine qaa rfl rfl (qtI hz (by omega)) ?_
 conv=>whnf
 refine qbn (fun h3=> ?_) (fun h3=> ?_)
 ·have e:rgR l=1:=by unfold rgR;rw [if_neg (by omega),h3];rfl
  rw [e]
  conv=>whnf
  exact ⟨rfl,trivial⟩
 have e0:rgR l=rgE (l.map vP):=by unfold rgR;rw [if_neg (by omega),if_pos h3]
 rw [e0,qft h3, <-qBr]
 have hm: ∀p∈l.map vP,BP n p:=fun p hp=>by
  obtain ⟨q,hq,rfl⟩:=List.mem_map.1 hp
  exact hl q hq
 have hml:(l.map vP).length=l.length:=List.length_map ..
 generalize hM:l.map vP=m at hm hml ⊢
 have r0:frE m=if (List.range m.length).any (stB m)=true then 12 else if qtG m=true then 13 else if qfY (tot crQ m/2)<0\/(lsN m (m.length-1):Int)≠0 then 8 else 0:=by
  unfold frE;rw [if_neg (by omega)]
 rw [r0]
 have hk4:=ql6 hm hn (by omega)
 generalize (List.range m.length).any (stB m)=z4 at*
 conv=>whnf
 refine qaa rfl rfl hk4 ?_
 conv=>whnf
 refine qal (fun h4=> ?_) (fun h4=> ?_)
 ·rw [if_pos h4]
  conv=>whnf
  exact ⟨rfl,trivial⟩
 rw [if_neg (by rw [h4];decide)]
 conv=>whnf
 refine qaa rfl rfl (qmc hm hn (by omega)) ?_
 conv=>whnf
 refine qal (fun h5=> ?_) (fun h5=> ?_)
 ·rw [if_pos h5]
  conv=>whnf
  exact ⟨rfl,trivial⟩
 rw [if_neg (by rw [h5];decide)]
 have hta:Bd (1000*(4*n+2)+1) (tot crQ m/2):=by
  have:=qdH hm m.length (Nat.le_refl _)
  rw [qge] at this
  refine (this.div (qdZ 2 (n:=1) (by decide))).mono ?_
  have:m.length*(4*n+2)<=1000*(4*n+2):=Nat.mul_le_mul_right _ (by omega)
  omega
 conv=>whnf
 refine qaa rfl rfl (qxy m hm (by omega) (by omega)) ?_
 conv=>whnf
 refine qaa rfl rfl (qjU (.mk hta (by omega))) ?_
 conv=>whnf
 refine qaf (fun h6=> ?_) (fun h6=> ?_)
 ·rw [if_pos (.inl h6)]
  conv=>whnf
  exact ⟨rfl,trivial⟩
 conv=>whnf
 refine qaa rfl rfl (qtb hm hn (by omega) (by omega)) ?_
 conv=>whnf
 refine qav (fun h7=> ?_) (fun h7=> ?_)
 ·rw [if_pos (.inr h7)]
  conv=>whnf
  exact ⟨rfl,trivial⟩
 ·rw [if_neg (by rintro (h|h)<;>contradiction)]
  conv=>whnf
  exact ⟨rfl,trivial⟩
theorem qqt{l:List P2}{n:Nat}(hl: ∀p∈l,BP n p)(hn:n<1000000)(hlen:l.length<=1000):Fun Tryz.prog 141 [.l (pL l)] [i64 (rgE l)] :=by
 have h:=qh6 (l.map cP) (n:=n) (fun p hp=>by obtain ⟨q,hq,rfl⟩:=List.mem_map.1 hp;exact (hl q hq).szp (by omega))
  (fun p hp=>by obtain ⟨q,hq,rfl⟩:=List.mem_map.1 hp;rw [qrh];exact hl q hq) hn (by simpa using hlen)
 rw [qsi,qpw] at h
 exact h
theorem qp0{l:List P2}{p:P2}{n:Nat}(hr:RgOk l)(hl: ∀p∈l,BP n p)(hp:BP n p)(hn:n<1000000):Fun Tryz.prog 152 [.l (pL l),pD p] [i64 (inV l p),i64 0] :=by
 have hlen:=hr.len
 have h1:=qqt hl hn (by omega)
 rw [qa3.2 hr] at h1
 have h2:=qo8 (hp.q (by omega)).1 (hp.q (by omega)).2
 have h3:=qv8 hl hp hn (by omega)
 rw [qBA hr] at h3
 refine qac (fun t=>false) mixed tOk Tryz.func152 rfl rfl ?_
 conv=>whnf
 refine qaa rfl rfl h1 ?_
 conv=>whnf
 refine qaZ (by decide) ?_
 conv=>whnf
 refine qaa rfl rfl h2 ?_
 conv=>whnf
 refine qaZ (by decide) ?_
 conv=>whnf
 refine qaa rfl rfl h3 ?_
 conv=>whnf
 refine ⟨?_, ?_,trivial⟩
 ·conv=>whnf
 ·conv=>whnf
theorem qhM{l:List P2}{p:P2}{n:Nat}(hr:RgOk l)(hl: ∀p∈l,BP n p)(hp:BP n p)(hn:n<1000000):Fun Tryz.prog 143 [.l (pL l),pD p] [.v (.bool (decide (inV l p=1)))] :=by
 refine qac (fun t=>false) mixed tOk Tryz.func143 rfl rfl ?_
 conv=>whnf
 refine qaa rfl rfl (qp0 hr hl hp hn) ?_
 conv=>whnf
 refine ⟨?_,trivial⟩
 conv=>whnf
 rw [qaJ]
 rfl
end Go.Nv
end
