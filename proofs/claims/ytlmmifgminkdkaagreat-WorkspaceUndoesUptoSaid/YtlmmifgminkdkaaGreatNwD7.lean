import Derived.Test.YtlmmifgminkdkaaGreatNwD6
import Derived.Test.YtlmmifgminkdkaaGreatNwD1
set_option linter.all false
set_option maxRecDepth 100000
section
namespace Go.Nv
open Go.Proofs Nw
def lsN(l:List P2):Nat->Nat
 |0=>0
 |i+1=>if cmP (ix l (i+1)) (ix l (lsN l i))<0 then i+1 else lsN l i
theorem qtJ(l:List P2): ∀i,lsN l i<=i
 |0=>Nat.le_refl _
 |i+1=>by
  have:=qtJ l i
  unfold lsN
  split<;>omega
theorem qr4{l:List P2}{n:Nat}(hl: ∀p∈l,BP n p)(hn:n<1000000)(h0:0<l.length)(hlen:l.length<=1000):Fun Tryz.prog 202 [.l (pL l)] [i64 (lsN l (l.length-1))] :=by
 have hll:(pL l).length=l.length:=by simp
 refine qac (fun t=>false) mixed tOk Tryz.func202 rfl rfl ?_
 conv=>whnf
 refine qah (fun t=>false) (fun i:Nat=>⟨fr 23 [(0,.d (.l (pL l))),(3,.d (i64 (lsN l i))),(4,.d (i64 (i+1:Nat)))], []⟩) (fun i=>i+1<=l.length) (fun i=>l.length-i) 0 mixed tOk (by omega) ?_ ?_
 ·refine qag ?_ ?_<;>repeat' (first|exact trivial|exact rfl|apply And.intro)
 ·intro i hi
  have hle:=qtJ l i
  conv=>whnf
  refine qaf (fun hlt=> ?_) (fun hge=> ?_)
  ·have hlt':i+1<l.length:=by omega
   have q1:=(hl _ (qbr (l:=l) (k:=i+1) h0)).q (by omega)
   have q2:=(hl _ (qbr (l:=l) (k:=lsN l i) h0)).q (by omega)
   conv=>whnf
   refine qae (pD (ix l (i+1))) (qdW hlt') (by omega) (qaX l) ?_
   conv=>whnf
   refine qae (pD (ix l (lsN l i))) (qdW (by omega)) (by omega) (qaX l) ?_
   conv=>whnf
   refine qab (qdU q1 q2) ?_
   conv=>whnf
   refine qad (by kernel_rfl) ?_
   conv=>whnf
   refine qaf (fun c1=> ?_) (fun c1=> ?_)
   ·have e:lsN l (i+1)=i+1:=by rw [lsN,if_pos c1]
    conv=>whnf
    refine qak (by omega) ?_
    conv=>whnf
    refine ⟨i+1,by omega,by omega, ?_⟩
    rw [e,show (((i+1:Nat):Int)+1)=((i+1+1:Nat):Int) from rfl]
    refine qag ?_ ?_<;>repeat' (first|exact trivial|exact rfl|apply And.intro)
   ·have e:lsN l (i+1)=lsN l i:=by rw [lsN,if_neg c1]
    conv=>whnf
    refine qak (by omega) ?_
    conv=>whnf
    refine ⟨i+1,by omega,by omega, ?_⟩
    rw [e,show (((i+1:Nat):Int)+1)=((i+1+1:Nat):Int) from rfl]
    refine qag ?_ ?_<;>repeat' (first|exact trivial|exact rfl|apply And.intro)
  ·have hiE:i=l.length-1:=by omega
   rw [<-hiE]
   conv=>whnf
   refine ⟨?_,trivial⟩
   conv=>whnf
theorem qnb(l:List P2)(hlen:l.length<=1000):Fun Tryz.prog 203 [.l (pL l)] [.l (eL (cyc l))] :=by
 have hll:(pL l).length=l.length:=by simp
 refine qac (fun t=>false) mixed tOk Tryz.func203 rfl rfl ?_
 conv=>whnf
 refine qah (fun t=>false) (fun i:Nat=>⟨fr 23 [(0,.d (.l (pL l))),(3,.own 1 0),(4,.d (i64 i))], [.dead,.row 0 214 12 160 (eL ((cyc l).take i))]⟩) (fun i=>i<=l.length) (fun i=>l.length-i) 0 mixed tOk (by omega) ?_ ?_
 ·refine qaj 0 rfl ?_
  refine qag ?_ ?_<;>repeat' (first|exact trivial|exact rfl|apply And.intro)
 ·intro i hi
  conv=>whnf
  refine qaf (fun hlt=> ?_) (fun hge=> ?_)
  ·have hlt':i<l.length:=by omega
   have hm:=qbT hlt'
   have e:eL ((cyc l).take (i+1))=eL ((cyc l).take i)++ [sD l[i] (l[(i+1)%l.length]'hm)] :=by rw [qcX hlt'];simp only [eL,List.map_append,List.map_cons,List.map_nil]
   have hll2:(eL ((cyc l).take i)).length<=1000:=by simp [qbj];omega
   have hAu:Uni 12 (eL ((cyc l).take i)):=qeA _
   have hnx:=qjg hlt' hlen
   have hgt:=qgq hlt'
   generalize eL ((cyc l).take i)=A at*
   generalize l[i] =a at*
   generalize l[(i+1)%l.length] =b at*
   conv=>whnf
   refine qae (pD a) hgt (by omega) (qaX l) ?_
   conv=>whnf
   refine qab hnx ?_
   conv=>whnf
   refine qcW hAu (by intro x hx;rcases List.mem_singleton.1 hx with rfl;rfl) (by simp only [maxLen,List.length_cons,List.length_nil];omega) ?_
   conv=>whnf
   refine qad (by kernel_rfl) ?_
   conv=>whnf
   refine qak (by omega) ?_
   conv=>whnf
   refine ⟨i+1,by omega,by omega, ?_⟩
   rw [e,Int.natCast_succ]
   refine qag ?_ ?_<;>repeat' (first|exact trivial|exact rfl|apply And.intro)
  ·have hiE:i=l.length:=by omega
   subst hiE
   rw [show (cyc l).take l.length=cyc l from by rw [<-qbj l];exact List.take_length]
   conv=>whnf
   refine ⟨?_,trivial⟩
   conv=>whnf
theorem quu{p:Rat}:qfG p<=0↔p<=0:=by
 rw [qdI];unfold qq7
 by_cases h1:p<0
 ·rw [if_pos h1];exact ⟨fun _=>by grind,fun _=>by decide⟩
 ·rw [if_neg h1]
  by_cases h2:0<p
  ·rw [if_pos h2];exact ⟨fun h=>absurd h (by decide),fun h=>by grind⟩
  ·rw [if_neg h2];exact ⟨fun _=>by grind,fun _=>by decide⟩
theorem qqY{a b p:P2}(hab:a≠b):beB a b p=true↔ ∃t:Rat,0<=t/\t<=1/\lin a b t=p:=by
 unfold beB
 rw [Bool.and_eq_true,decide_eq_true_eq,decide_eq_true_eq,qfn,quu]
 have hd:0<(b.1-a.1)*(b.1-a.1)+(b.2-a.2)*(b.2-a.2):=qnc fun h=>hab (Prod.ext (by grind) (by grind))
 constructor
 ·rintro ⟨ho,hp⟩
  obtain ⟨D,hD⟩: ∃D,D=(b.1-a.1)*(b.1-a.1)+(b.2-a.2)*(b.2-a.2):=⟨_,rfl⟩
  rw [<-hD] at hd
  have hd0:D≠0:=by grind
  obtain ⟨t,ht⟩: ∃t,t=((p.1-a.1)*(b.1-a.1)+(p.2-a.2)*(b.2-a.2))/D:=⟨_,rfl⟩
  have htD:t*D=(p.1-a.1)*(b.1-a.1)+(p.2-a.2)*(b.2-a.2):=by rw [ht];grind
  simp only [orQ] at ho
  have e1:(p.1-a.1)*D=(b.1-a.1)*(t*D):=by rw [htD,hD];grind
  have e2:(p.2-a.2)*D=(b.2-a.2)*(t*D):=by rw [htD,hD];grind
  have f1:p.1-a.1=(b.1-a.1)*t:=by grind
  have f2:p.2-a.2=(b.2-a.2)*t:=by grind
  have hq:doQ (su a p) (su b p)= -(t*(1-t))*D:=by
   simp only [doQ,su]
   have g1:a.1-p.1= -((b.1-a.1)*t):=by grind
   have g2:a.2-p.2= -((b.2-a.2)*t):=by grind
   have g3:b.1-p.1=(b.1-a.1)*(1-t):=by grind
   have g4:b.2-p.2=(b.2-a.2)*(1-t):=by grind
   rw [g1,g2,g3,g4,hD];grind
  rw [hq] at hp
  have hk:0<=t*(1-t):=by
   by_cases h:0<=t*(1-t)
   ·exact h
   ·have:=Rat.mul_pos (show 0< -(t*(1-t)) by grind) hd
    grind
  have t0:0<=t:=by
   by_cases h:0<=t
   ·exact h
   ·have:=Rat.mul_pos (show 0< -t by grind) (show 0<1-t by grind)
    grind
  have t1:t<=1:=by
   by_cases h:t<=1
   ·exact h
   ·have:=Rat.mul_pos (show 0<t by grind) (show 0<t-1 by grind)
    grind
  exact ⟨t,t0,t1,Prod.ext (by simp only [lin];grind) (by simp only [lin];grind)⟩
 ·rintro ⟨t,t0,t1,rfl⟩
  refine ⟨by simp only [orQ,lin];grind, ?_⟩
  have hq:doQ (su a (lin a b t)) (su b (lin a b t))= -(t*(1-t))*((b.1-a.1)*(b.1-a.1)+(b.2-a.2)*(b.2-a.2)):=by
   simp only [doQ,su,lin];grind
  rw [hq]
  have:=Rat.mul_nonneg (Rat.mul_nonneg t0 (show 0<=1-t by grind)) (show 0<=(b.1-a.1)*(b.1-a.1)+(b.2-a.2)*(b.2-a.2) by grind)
  grind
theorem qtL{a b p:P2}(hab:a≠b):beB a b p=qq5 a b p:=by
 rw [Bool.eq_iff_iff,qqY hab,qx1 hab]
def Cut(a b c d:P2):Prop:= ∃s t:Rat,0<=s/\s<=1/\0<=t/\t<=1/\lin a b s=lin c d t
theorem qsy{a b c d:P2}:Cut a b c d↔ ¬Disj a b c d:=by
 constructor
 ·rintro ⟨s,t,h1,h2,h3,h4,h5⟩ h
  exact h s t h1 h2 h3 h4 h5
 ·exact qmp
theorem qml{a b p:P2}(hab:a≠b)(h:orQ a b p=0): ∃t:Rat,p=lin a b t:=by
 simp only [orQ] at h
 by_cases hx:a.1=b.1
 ·have hy:b.2-a.2≠0:=fun hy=>hab (Prod.ext hx (by grind))
  refine ⟨(p.2-a.2)/(b.2-a.2),Prod.ext ?_ ?_⟩
  ·simp only [lin]
   have hz:(b.2-a.2)*(p.1-a.1)=0:=by rw [hx] at h ⊢;grind
   rcases Rat.mul_eq_zero.1 hz with h1|h1
   ·exact absurd h1 hy
   ·rw [hx] at h1 ⊢;grind
  ·simp only [lin];grind
 ·have hn:b.1-a.1≠0:=by grind
  refine ⟨(p.1-a.1)/(b.1-a.1),Prod.ext ?_ ?_⟩
  ·simp only [lin];grind
  ·simp only [lin];grind
theorem qgM{x y:Rat}:qfG x*qfG y<0↔x*y<0:=by
 rw [qdI,qdI];unfold qq7
 by_cases x1:x<0
 ·rw [if_pos x1]
  by_cases y1:y<0
  ·rw [if_pos y1]
   have:=Rat.mul_pos (show 0< -x by grind) (show 0< -y by grind)
   exact ⟨fun h=>absurd h (by decide),fun h=>by grind⟩
  ·rw [if_neg y1]
   by_cases y2:0<y
   ·rw [if_pos y2]
    have:=Rat.mul_pos (show 0< -x by grind) y2
    exact ⟨fun _=>by grind,fun _=>by decide⟩
   ·rw [if_neg y2]
    have:y=0:=by grind
    subst this
    exact ⟨fun h=>absurd h (by decide),fun h=>by grind⟩
 ·rw [if_neg x1]
  by_cases x2:0<x
  ·rw [if_pos x2]
   by_cases y1:y<0
   ·rw [if_pos y1]
    have:=Rat.mul_pos x2 (show 0< -y by grind)
    exact ⟨fun _=>by grind,fun _=>by decide⟩
   ·rw [if_neg y1]
    by_cases y2:0<y
    ·rw [if_pos y2]
     have:=Rat.mul_pos x2 y2
     exact ⟨fun h=>absurd h (by decide),fun h=>by grind⟩
    ·rw [if_neg y2]
     have:y=0:=by grind
     subst this
     exact ⟨fun h=>absurd h (by decide),fun h=>by grind⟩
  ·rw [if_neg x2]
   have:x=0:=by grind
   subst this
   refine ⟨fun h=> ?_,fun h=>by grind⟩
   rw [Int.zero_mul] at h;exact absurd h (by decide)
theorem qvh(a b p:P2):orQ b a p= -orQ a b p:=by simp only [orQ];grind
theorem qtj{x y:Rat}(h:x*y<0):0<=x/(x-y)/\x/(x-y)<=1:=by
 by_cases hx:0<x
 ·have hy:y<0:=by
   by_cases hy:y<0
   ·exact hy
   ·have:=Rat.mul_nonneg (show 0<=x by grind) (show 0<=y by grind);grind
  exact qby (by grind) (by grind) (by grind)
 ·have hx':x<0:=by
   by_cases e:x=0
   ·subst e;grind
   ·grind
  have hy:0<y:=by
   by_cases hy:0<y
   ·exact hy
   ·have:=Rat.mul_nonneg (show 0<= -x by grind) (show 0<= -y by grind);grind
  have:=qby (x:= -x) (y:=y-x) (by grind) (by grind) (by grind)
  have e:x/(x-y)= -x/(y-x):=by
   have h1:x-y≠0:=by grind
   have h2:y-x≠0:=by grind
   grind
  rw [e];exact this
theorem qnz{a b c d:P2}(h1:orQ a b c*orQ a b d<0)(h2:orQ c d a*orQ c d b<0):Cut a b c d:=by
 have k1:=qtj h1
 have k2:=qtj h2
 refine ⟨_,_,k2.1,k2.2,k1.1,k1.2, ?_⟩
 have n1:orQ a b c-orQ a b d≠0:=by
  intro h
  have e:orQ a b c=orQ a b d:=by grind
  have hs: ∀z:Rat,0<=z*z:=fun z=>by
   by_cases hz:0<=z
   ·exact Rat.mul_nonneg hz hz
   ·have:=Rat.mul_nonneg (show 0<= -z by grind) (show 0<= -z by grind);grind
  rw [e] at h1
  have:=hs (orQ a b d);grind
 have n2:orQ c d a-orQ c d b≠0:=by
  simp only [orQ] at n1 ⊢;grind
 generalize hs:orQ c d a/(orQ c d a-orQ c d b)=s
 generalize ht:orQ a b c/(orQ a b c-orQ a b d)=t
 have hs':s*(orQ c d a-orQ c d b)=orQ c d a:=by rw [<-hs];grind
 have ht':t*(orQ a b c-orQ a b d)=orQ a b c:=by rw [<-ht];grind
 have eN:orQ c d a-orQ c d b=orQ a b d-orQ a b c:=by simp only [orQ];grind
 obtain ⟨N,hN⟩: ∃N,N=orQ a b d-orQ a b c:=⟨_,rfl⟩
 rw [eN, <-hN] at hs'
 have ht2:t*N= -orQ a b c:=by rw [hN];grind
 have hN0:N≠0:=by rw [hN];grind
 have hNe:N=(b.1-a.1)*(d.2-c.2)-(b.2-a.2)*(d.1-c.1):=by rw [hN];simp only [orQ];grind
 simp only [orQ] at hs' ht2
 refine Prod.ext ?_ ?_
 ·simp only [lin]
  have:(a.1+(b.1-a.1)*s)*N=(c.1+(d.1-c.1)*t)*N:=by
   have l1:(a.1+(b.1-a.1)*s)*N=a.1*N+(b.1-a.1)*(s*N):=by grind
   have l2:(c.1+(d.1-c.1)*t)*N=c.1*N+(d.1-c.1)*(t*N):=by grind
   rw [l1,l2,hs',ht2,hNe];grind
  grind
 ·simp only [lin]
  have:(a.2+(b.2-a.2)*s)*N=(c.2+(d.2-c.2)*t)*N:=by
   have l1:(a.2+(b.2-a.2)*s)*N=a.2*N+(b.2-a.2)*(s*N):=by grind
   have l2:(c.2+(d.2-c.2)*t)*N=c.2*N+(d.2-c.2)*(t*N):=by grind
   rw [l1,l2,hs',ht2,hNe];grind
  grind
theorem Cut.symm{a b c d:P2}:Cut a b c d->Cut c d a b:=fun ⟨s,t,h1,h2,h3,h4,h5⟩=>⟨t,s,h3,h4,h1,h2,h5.symm⟩
theorem qms{a b c d:P2}(hab:a≠b)(hcd:c≠d)(h:Cut a b c d)(hn: ¬orQ a b c*orQ a b d<0):
  (∃t:Rat,0<=t/\t<=1/\lin a b t=c)\/(∃t:Rat,0<=t/\t<=1/\lin a b t=d)\/(∃t:Rat,0<=t/\t<=1/\lin c d t=a):=by
 obtain ⟨s,t,s0,s1,t0,t1,he⟩:=h
 have hz:(1-t)*orQ a b c+t*orQ a b d=0:=by
  have h1:=qk1 a b c d t
  rw [<-he,qfz] at h1
  grind
 by_cases h1:orQ a b c=0
 ·by_cases h2:orQ a b d=0
  ·obtain ⟨γ,rfl⟩:=qml hab h1
   obtain ⟨δ,rfl⟩:=qml hab h2
   have hs:s=γ+(δ-γ)*t:=by
    have e1:=congrArg Prod.fst he
    have e2:=congrArg Prod.snd he
    simp only [lin] at e1 e2
    by_cases hx:b.1-a.1=0
    ·have hy:b.2-a.2≠0:=fun hy=>hab (Prod.ext (by grind) (by grind))
     have:(b.2-a.2)*(s-(γ+(δ-γ)*t))=0:=by grind
     rcases Rat.mul_eq_zero.1 this with h|h
     ·exact absurd h hy
     ·grind
    ·have:(b.1-a.1)*(s-(γ+(δ-γ)*t))=0:=by grind
     rcases Rat.mul_eq_zero.1 this with h|h
     ·exact absurd h hx
     ·grind
   by_cases g1:0<=γ/\γ<=1
   ·exact .inl ⟨γ,g1.1,g1.2,rfl⟩
   by_cases g2:0<=δ/\δ<=1
   ·exact .inr (.inl ⟨δ,g2.1,g2.2,rfl⟩)
   right;right
   have hm1:=Rat.mul_nonneg t0 (show 0<=1-t by grind)
   have hgd:γ≠δ:=fun e=>by rw [e] at hcd;exact hcd rfl
   have key:0<=(0-γ)/(δ-γ)/\(0-γ)/(δ-γ)<=1:=by
    by_cases hlt:γ<0
    ·have:0<δ:=by
      by_cases hd:0<δ
      ·exact hd
      ·have hd':δ<0:=by
        by_cases e:δ=0
        ·exact absurd ⟨by grind,by grind⟩ g2
        ·grind
       have n1:=Rat.mul_nonneg t0 (show 0<= -δ by grind)
       have n2:=Rat.mul_nonneg (show 0<=1-t by grind) (show 0<= -γ by grind)
       by_cases et:t=0
       ·subst et;grind
       ·have:=Rat.mul_pos (show 0<t by grind) (show 0< -δ by grind)
        grind
     exact qby (by grind) (by grind) (by grind)
    ·have hg:1<γ:=by
      by_cases h:1<γ
      ·exact h
      ·exact absurd ⟨by grind,by grind⟩ g1
     have:δ<0:=by
      by_cases hd:δ<0
      ·exact hd
      ·have hd':1<δ:=by
        by_cases h:1<δ
        ·exact h
        ·exact absurd ⟨by grind,by grind⟩ g2
       have n1:=Rat.mul_nonneg t0 (show 0<=δ-1 by grind)
       have n2:=Rat.mul_nonneg (show 0<=1-t by grind) (show 0<=γ-1 by grind)
       by_cases et:t=0
       ·subst et;grind
       ·have:=Rat.mul_pos (show 0<t by grind) (show 0<δ-1 by grind)
        grind
     have:=qby (x:=γ) (y:=γ-δ) (by grind) (by grind) (by grind)
     have e:(0-γ)/(δ-γ)=γ/(γ-δ):=by
      have a1:δ-γ≠0:=by grind
      have a2:γ-δ≠0:=by grind
      grind
     rw [e];exact this
   refine ⟨_,key.1,key.2, ?_⟩
   have a1:δ-γ≠0:=by grind
   generalize hk:(0-γ)/(δ-γ)=k
   have hk':k*(δ-γ)= -γ:=by rw [<-hk];grind
   refine Prod.ext ?_ ?_
   ·simp only [lin]
    have:a.1+(b.1-a.1)*γ+(a.1+(b.1-a.1)*δ-(a.1+(b.1-a.1)*γ))*k=a.1+(b.1-a.1)*(γ+k*(δ-γ)):=by grind
    rw [this,hk'];grind
   ·simp only [lin]
    have:a.2+(b.2-a.2)*γ+(a.2+(b.2-a.2)*δ-(a.2+(b.2-a.2)*γ))*k=a.2+(b.2-a.2)*(γ+k*(δ-γ)):=by grind
    rw [this,hk'];grind
  ·have ht:t=0:=by
    rw [h1] at hz
    have:t*orQ a b d=0:=by grind
    rcases Rat.mul_eq_zero.1 this with h|h
    ·exact h
    ·exact absurd h h2
   subst ht
   rw [qau] at he
   exact .inl ⟨s,s0,s1,he⟩
 ·by_cases h2:orQ a b d=0
  ·have ht:1-t=0:=by
    rw [h2] at hz
    have:(1-t)*orQ a b c=0:=by grind
    rcases Rat.mul_eq_zero.1 this with h|h
    ·exact h
    ·exact absurd h h1
   have ht:t=1:=by grind
   subst ht
   rw [qa0] at he
   exact .inr (.inl ⟨s,s0,s1,he⟩)
  ·exfalso
   have hpos:0<orQ a b c*orQ a b d:=by
    by_cases h:orQ a b c*orQ a b d=0
    ·rcases Rat.mul_eq_zero.1 h with h|h
     ·exact absurd h h1
     ·exact absurd h h2
    ·grind
   have e1:(1-t)*(orQ a b c*orQ a b c)+t*(orQ a b c*orQ a b d)=0:=by
    have:(1-t)*(orQ a b c*orQ a b c)+t*(orQ a b c*orQ a b d)=orQ a b c*((1-t)*orQ a b c+t*orQ a b d):=by grind
    rw [this,hz];grind
   have hsq:0<orQ a b c*orQ a b c:=by
    have:=qnc (x:=orQ a b c) (y:=0) (fun h=>h1 h.1);grind
   generalize orQ a b c*orQ a b c=P at*
   generalize orQ a b c*orQ a b d=R at*
   have n1:=Rat.mul_nonneg t0 (show 0<=R by grind)
   have n2:=Rat.mul_nonneg (show 0<=1-t by grind) (show 0<=P by grind)
   by_cases et:t=0
   ·subst et;grind
   ·have:=Rat.mul_pos (show 0<t by grind) hpos
    grind
theorem qza{a b c d:P2}(hab:a≠b)(hcd:c≠d):rmB a b c d=true↔Cut a b c d:=by
 unfold rmB
 simp only [Bool.or_eq_true,Bool.and_eq_true,decide_eq_true_eq]
 rw [qqY hab,qqY hab,qqY hcd,qqY hcd]
 have z0: ∀p q:P2,lin p q 0=p:=fun p q=>qau p q
 have z1: ∀p q:P2,lin p q 1=q:=fun p q=>qa0 p q
 have u0:(0:Rat)<=0:=by grind
 have u1:(0:Rat)<=1:=by grind
 have u2:(1:Rat)<=1:=by grind
 constructor
 ·rintro ((((⟨t,t0,t1,h⟩|⟨t,t0,t1,h⟩)|⟨t,t0,t1,h⟩)|⟨t,t0,t1,h⟩)|⟨h1,h2⟩)
  ·exact ⟨t,0,t0,t1,u0,u1,by rw [z0];exact h⟩
  ·exact ⟨t,1,t0,t1,u1,u2,by rw [z1];exact h⟩
  ·exact ⟨0,t,u0,u1,t0,t1,by rw [z0];exact h.symm⟩
  ·exact ⟨1,t,u1,u2,t0,t1,by rw [z1];exact h.symm⟩
  ·unfold orI at h1 h2
   exact qnz (qgM.1 h1) (qgM.1 h2)
 ·intro h
  by_cases h1:orQ a b c*orQ a b d<0
  ·by_cases h2:orQ c d a*orQ c d b<0
   ·right
    unfold orI
    exact ⟨qgM.2 h1,qgM.2 h2⟩
   ·rcases qms hcd hab h.symm h2 with k|k|k
    ·exact .inl (.inl (.inr k))
    ·exact .inl (.inr k)
    ·exact .inl (.inl (.inl (.inl k)))
  ·rcases qms hab hcd h h1 with k|k|k
   ·exact .inl (.inl (.inl (.inl k)))
   ·exact .inl (.inl (.inl (.inr k)))
   ·exact .inl (.inl (.inr k))
theorem qiO{a b:P2}(h:a≠b):leP (qaQ a b).1 (qaQ a b).2/\(qaQ a b).1≠(qaQ a b).2:=by
 unfold qaQ
 by_cases hc:0<cmP a b
 ·rw [if_pos hc]
  refine ⟨qd2 (p:=a) (q:=b) fun h1=> ?_,fun e=>h e.symm⟩
  have:=qbA.2 h1;omega
 ·rw [if_neg hc]
  exact ⟨qbA.1 (show cmP a b<=0 by omega),h⟩
theorem qsH{p q:P2}(h:leP p q)(k:leP q p):p=q:=by
 unfold leP at*
 exact Prod.ext (by grind) (by grind)
theorem qjB{a b:P2}(h:leP a b):qaQ a b=(a,b):=by
 unfold qaQ;rw [if_neg (by have:=qbA.2 h;omega)]
theorem qp6{a b:P2}(h:leP b a)(hn:a≠b):qaQ a b=(b,a):=by
 unfold qaQ
 rw [if_pos]
 by_cases hc:0<cmP a b
 ·exact hc
 ·exact absurd (qsH (qbA.1 (by omega)) h) hn
theorem qjM{a b:P2}(h:a≠b):qaQ b a=qaQ a b:=by
 by_cases hl:leP a b
 ·rw [qjB hl,qp6 hl (fun e=>h e.symm)]
 ·rw [qp6 (qd2 hl) h,qjB (qd2 hl)]
theorem qve{a b:P2}(h:leP a b)(hn:a≠b){k:Rat}:leP a (lin a b k)↔0<=k:=by
 unfold leP at*
 simp only [lin]
 rcases h with h|⟨h1,h2⟩
 ·have hp:0<b.1-a.1:=by grind
  constructor
  ·rintro (h3|⟨h3,h4⟩)
   ·by_cases hk:0<=k
    ·exact hk
    ·have:=Rat.mul_pos hp (show 0< -k by grind);grind
   ·have:(b.1-a.1)*k=0:=by grind
    rcases Rat.mul_eq_zero.1 this with e|e<;>grind
  ·intro hk
   by_cases e:k=0
   ·subst e;right;grind
   ·left
    have:=Rat.mul_pos hp (show 0<k by grind);grind
 ·have h3:a.2<b.2:=by
   by_cases e:a.2=b.2
   ·exact absurd (Prod.ext h1 e) hn
   ·grind
  have hp:0<b.2-a.2:=by grind
  have hz:b.1-a.1=0:=by grind
  rw [hz]
  constructor
  ·rintro (h3|⟨h3,h4⟩)
   ·grind
   ·by_cases hk:0<=k
    ·exact hk
    ·have:=Rat.mul_pos hp (show 0< -k by grind);grind
  ·intro hk
   have:=Rat.mul_nonneg (show 0<=b.2-a.2 by grind) hk
   right;grind
theorem qvc{a b:P2}(h:leP a b)(hn:a≠b){k:Rat}:leP (lin a b k) b↔k<=1:=by
 unfold leP at*
 simp only [lin]
 rcases h with h|⟨h1,h2⟩
 ·have hp:0<b.1-a.1:=by grind
  constructor
  ·rintro (h3|⟨h3,h4⟩)
   ·by_cases hk:k<=1
    ·exact hk
    ·have:=Rat.mul_pos hp (show 0<k-1 by grind);grind
   ·have:(b.1-a.1)*(k-1)=0:=by grind
    rcases Rat.mul_eq_zero.1 this with e|e<;>grind
  ·intro hk
   by_cases e:k=1
   ·subst e;right;grind
   ·left
    have:=Rat.mul_pos hp (show 0<1-k by grind);grind
 ·have h3:a.2<b.2:=by
   by_cases e:a.2=b.2
   ·exact absurd (Prod.ext h1 e) hn
   ·grind
  have hp:0<b.2-a.2:=by grind
  have hz:b.1-a.1=0:=by grind
  rw [hz]
  constructor
  ·rintro (h3|⟨h3,h4⟩)
   ·grind
   ·by_cases hk:k<=1
    ·exact hk
    ·have:=Rat.mul_pos hp (show 0<k-1 by grind);grind
  ·intro hk
   have:=Rat.mul_nonneg (show 0<=b.2-a.2 by grind) (show 0<=1-k by grind)
   right;grind
theorem qoZ(t:Rat):unB (1-t)=unB t:=by
 rw [Bool.eq_iff_iff,qeH,qeH]
 constructor<;>rintro ⟨h1,h2⟩<;>constructor<;>grind
theorem qpz{a b c d:P2}(h:a≠b):mtQ b a c d=mtQ a b c d:=by
 have e1:crQ (su a b) (su d c)= -crQ (su b a) (su d c):=by simp only [crQ,su];grind
 unfold mtQ
 rw [qjM h]
 by_cases h0:crQ (su b a) (su d c)=0
 ·rw [if_pos (by rw [e1,h0];grind),if_pos h0]
  have e2:crQ (su a b) (su c b)=0↔crQ (su b a) (su c a)=0:=by
   simp only [crQ,su];constructor<;>intro h<;>grind
  by_cases h2:crQ (su b a) (su c a)=0
  ·rw [if_pos (e2.2 h2),if_pos h2]
  ·rw [if_neg (fun h=>h2 (e2.1 h)),if_neg h2]
 ·rw [if_neg (by rw [e1];grind),if_neg h0]
  have k1:crQ (su c b) (su d c)/crQ (su a b) (su d c)=1-crQ (su c a) (su d c)/crQ (su b a) (su d c):=by
   have:crQ (su c b) (su d c)=crQ (su c a) (su d c)-crQ (su b a) (su d c):=by simp only [crQ,su];grind
   rw [this,e1]
   generalize crQ (su b a) (su d c)=D at*
   generalize crQ (su c a) (su d c)=N
   have: -D≠0:=by grind
   grind
  have k2:crQ (su c b) (su a b)/crQ (su a b) (su d c)=crQ (su c a) (su b a)/crQ (su b a) (su d c):=by
   have:crQ (su c b) (su a b)= -crQ (su c a) (su b a):=by simp only [crQ,su];grind
   rw [this,e1]
   generalize crQ (su b a) (su d c)=D at*
   generalize crQ (su c a) (su b a)=N
   have: -D≠0:=by grind
   grind
  rw [k1,k2,qoZ]
  have e3: ∀k:Rat,lin b a (1-k)=lin a b k:=fun k=>by
   rw [qce];congr 1;grind
  rw [e3]
theorem qqw{a b c d:P2}(h:c≠d):mtQ a b d c=mtQ a b c d:=by
 have e1:crQ (su b a) (su c d)= -crQ (su b a) (su d c):=by simp only [crQ,su];grind
 unfold mtQ
 rw [qjM h]
 by_cases h0:crQ (su b a) (su d c)=0
 ·rw [if_pos (by rw [e1,h0];grind),if_pos h0]
  have e2:crQ (su b a) (su d a)=0↔crQ (su b a) (su c a)=0:=by
   have:crQ (su b a) (su d a)=crQ (su b a) (su c a)+crQ (su b a) (su d c):=by simp only [crQ,su];grind
   rw [this,h0];constructor<;>intro h<;>grind
  by_cases h2:crQ (su b a) (su c a)=0
  ·rw [if_pos (e2.2 h2),if_pos h2]
  ·rw [if_neg (fun h=>h2 (e2.1 h)),if_neg h2]
 ·rw [if_neg (by rw [e1];grind),if_neg h0]
  have k1:crQ (su d a) (su c d)/crQ (su b a) (su c d)=crQ (su c a) (su d c)/crQ (su b a) (su d c):=by
   have:crQ (su d a) (su c d)= -crQ (su c a) (su d c):=by simp only [crQ,su];grind
   rw [this,e1]
   generalize crQ (su b a) (su d c)=D at*
   generalize crQ (su c a) (su d c)=N
   have: -D≠0:=by grind
   grind
  have k2:crQ (su d a) (su b a)/crQ (su b a) (su c d)=1-crQ (su c a) (su b a)/crQ (su b a) (su d c):=by
   have:crQ (su d a) (su b a)=crQ (su c a) (su b a)-crQ (su b a) (su d c):=by simp only [crQ,su];grind
   rw [this,e1]
   generalize crQ (su b a) (su d c)=D at*
   generalize crQ (su c a) (su b a)=N
   have: -D≠0:=by grind
   grind
  rw [k1,k2,qoZ]
def bwB(a b p:P2):Bool:=decide (cmP a p<=0)&&decide (cmP p b<=0)
def fm0(a b c d:P2):Option (P2×P2):=
 if crQ (su b a) (su d c)=0 then
  (if orI a b c≠0 then none
  else if 0<cmP (qe8 a c) (qfV b d) then none else some (qe8 a c,qfV b d))
 else if bwB a b (lin a b (crQ (su c a) (su d c)/crQ (su b a) (su d c)))&&bwB c d (lin a b (crQ (su c a) (su d c)/crQ (su b a) (su d c))) then
  some (lin a b (crQ (su c a) (su d c)/crQ (su b a) (su d c)),lin a b (crQ (su c a) (su d c)/crQ (su b a) (su d c)))
 else none
theorem qu6{a b p:P2}:bwB a b p=true↔leP a p/\leP p b:=by
 unfold bwB;rw [Bool.and_eq_true,decide_eq_true_eq,decide_eq_true_eq,qbA,qbA]
theorem qpw{a b:P2}(h:leP a b)(hn:a≠b)(k:Rat):bwB a b (lin a b k)=unB k:=by
 rw [Bool.eq_iff_iff,qu6,qeH,qve h hn,qvc h hn]
theorem qkO{a b c d:P2}(h0:crQ (su b a) (su d c)≠0):lin a b (crQ (su c a) (su d c)/crQ (su b a) (su d c))=lin c d (crQ (su c a) (su b a)/crQ (su b a) (su d c)):=by
 generalize hk:crQ (su c a) (su d c)/crQ (su b a) (su d c)=k
 generalize hm:crQ (su c a) (su b a)/crQ (su b a) (su d c)=m
 have k':k*crQ (su b a) (su d c)=crQ (su c a) (su d c):=by rw [<-hk];grind
 have m':m*crQ (su b a) (su d c)=crQ (su c a) (su b a):=by rw [<-hm];grind
 have hD:crQ (su b a) (su d c)=(b.1-a.1)*(d.2-c.2)-(b.2-a.2)*(d.1-c.1):=rfl
 have hK:crQ (su c a) (su d c)=(c.1-a.1)*(d.2-c.2)-(c.2-a.2)*(d.1-c.1):=rfl
 have hM:crQ (su c a) (su b a)=(c.1-a.1)*(b.2-a.2)-(c.2-a.2)*(b.1-a.1):=rfl
 rw [hK] at k'
 rw [hM] at m'
 generalize crQ (su b a) (su d c)=D at*
 refine Prod.ext ?_ ?_
 ·simp only [lin]
  have:(a.1+(b.1-a.1)*k)*D=(c.1+(d.1-c.1)*m)*D:=by
   have l1:(a.1+(b.1-a.1)*k)*D=a.1*D+(b.1-a.1)*(k*D):=by grind
   have l2:(c.1+(d.1-c.1)*m)*D=c.1*D+(d.1-c.1)*(m*D):=by grind
   rw [l1,l2,k',m',hD];grind
  grind
 ·simp only [lin]
  have:(a.2+(b.2-a.2)*k)*D=(c.2+(d.2-c.2)*m)*D:=by
   have l1:(a.2+(b.2-a.2)*k)*D=a.2*D+(b.2-a.2)*(k*D):=by grind
   have l2:(c.2+(d.2-c.2)*m)*D=c.2*D+(d.2-c.2)*(m*D):=by grind
   rw [l1,l2,k',m',hD];grind
  grind
theorem qw9{a b c d:P2}(h1:leP a b)(n1:a≠b)(h2:leP c d)(n2:c≠d):fm0 a b c d=mtQ a b c d:=by
 unfold fm0 mtQ
 rw [qjB h1,qjB h2]
 by_cases h0:crQ (su b a) (su d c)=0
 ·rw [if_pos h0,if_pos h0]
  have e:orI a b c=0↔crQ (su b a) (su c a)=0:=by rw [qfn];rfl
  by_cases hx:crQ (su b a) (su c a)=0
  ·rw [if_neg (fun h=>h (e.2 hx)),if_pos hx]
  ·rw [if_pos (fun h=>hx (e.1 h)),if_neg hx]
 ·rw [if_neg h0,if_neg h0]
  have e2:bwB c d (lin a b (crQ (su c a) (su d c)/crQ (su b a) (su d c)))=unB (crQ (su c a) (su b a)/crQ (su b a) (su d c)):=by
   rw [qkO h0,qpw h2 n2]
  rw [qpw h1 n1,e2]
def fmQ(a b c d:P2):Option (P2×P2):=fm0 (qaQ a b).1 (qaQ a b).2 (qaQ c d).1 (qaQ c d).2
theorem qyu{a b c d:P2}(hab:a≠b)(hcd:c≠d):fmQ a b c d=mtQ a b c d:=by
 unfold fmQ
 have k1:=qiO hab
 have k2:=qiO hcd
 rw [qw9 k1.1 k1.2 k2.1 k2.2]
 have m1: ∀x y:P2,mtQ (qaQ a b).1 (qaQ a b).2 x y=mtQ a b x y:=fun x y=>by
  unfold qaQ
  split
  ·exact qpz hab
  ·rfl
 have m2: ∀x y:P2,mtQ x y (qaQ c d).1 (qaQ c d).2=mtQ x y c d:=fun x y=>by
  unfold qaQ
  split
  ·exact qqw hcd
  ·rfl
 rw [m1,m2]
theorem qrj{a b c d:P2}(hab:a≠b)(hcd:c≠d)(h:(mtQ a b c d).isSome=true):Cut a b c d:=by
 by_cases h0:crQ (su b a) (su d c)=0
 ·have k1:=qiO hab
  have k2:=qiO hcd
  have ord_sub: ∀{x y p:P2},x≠y->(∃t:Rat,0<=t/\t<=1/\lin (qaQ x y).1 (qaQ x y).2 t=p)-> ∃t:Rat,0<=t/\t<=1/\lin x y t=p:=by
   intro x y p hn ⟨t,t0,t1,e⟩
   unfold qaQ at e
   split at e
   ·exact ⟨1-t,by grind,by grind,by rw [<-e];exact (qce x y t).symm⟩
   ·exact ⟨t,t0,t1,e⟩
  have ord_or: ∀{x y p:P2},orQ x y p=0->orQ (qaQ x y).1 (qaQ x y).2 p=0:=by
   intro x y p hz
   unfold qaQ
   split
   ·show orQ y x p=0
    rw [qvh,hz];grind
   ·exact hz
  unfold mtQ at h
  rw [if_pos h0] at h
  by_cases hx:crQ (su b a) (su c a)=0
  ·rw [if_pos hx] at h
   by_cases hc:0<cmP (qe8 (qaQ a b).1 (qaQ c d).1) (qfV (qaQ a b).2 (qaQ c d).2)
   ·rw [if_pos hc] at h;exact absurd h (by simp)
   have hle:=qbA.1 (show cmP (qe8 (qaQ a b).1 (qaQ c d).1) (qfV (qaQ a b).2 (qaQ c d).2)<=0 by omega)
   have oc:orQ a b c=0:=hx
   have od:orQ a b d=0:=by
    have:orQ a b d=crQ (su b a) (su c a)+crQ (su b a) (su d c):=by simp only [crQ,su,orQ];grind
    rw [this,hx,h0];grind
   --the ends of a b on the line of c d
   obtain ⟨γ,hγ⟩:=qml hab oc
   obtain ⟨δ,hδ⟩:=qml hab od
   have oa:orQ c d a=0:=by rw [hγ,hδ];simp only [orQ,lin];grind
   have ob:orQ c d b=0:=by rw [hγ,hδ];simp only [orQ,lin];grind
   have gl:leP (qaQ a b).1 (qe8 (qaQ a b).1 (qaQ c d).1)/\leP (qaQ c d).1 (qe8 (qaQ a b).1 (qaQ c d).1):=by
    unfold qe8
    split
    ·rename_i hlt;exact ⟨qbA.1 (by omega),qeo _⟩
    ·rename_i hlt
     refine ⟨qeo _, ?_⟩
     by_cases hz:cmP (qaQ a b).1 (qaQ c d).1<=0
     ·have:=qcf.1 (show cmP (qaQ a b).1 (qaQ c d).1=0 by omega)
      rw [this];exact qeo _
     ·exact qd2 fun h=>hz (qbA.2 h)
   have ll:leP (qfV (qaQ a b).2 (qaQ c d).2) (qaQ a b).2/\leP (qfV (qaQ a b).2 (qaQ c d).2) (qaQ c d).2:=by
    unfold qfV
    split
    ·rename_i hlt;exact ⟨qeo _,qbA.1 (by omega)⟩
    ·rename_i hlt
     refine ⟨?_,qeo _⟩
     by_cases hz:cmP (qaQ a b).2 (qaQ c d).2<=0
     ·have:=qcf.1 (show cmP (qaQ a b).2 (qaQ c d).2=0 by omega)
      rw [this];exact qeo _
     ·exact qd2 fun h=>hz (qbA.2 h)
   have e1:orQ a b (qe8 (qaQ a b).1 (qaQ c d).1)=0/\orQ c d (qe8 (qaQ a b).1 (qaQ c d).1)=0:=by
    have za:orQ a b a=0/\orQ a b b=0:=by simp only [orQ];constructor<;>grind
    have zc:orQ c d c=0/\orQ c d d=0:=by simp only [orQ];constructor<;>grind
    have p1:=qil (P:=fun p=>orQ a b p=0/\orQ c d p=0) (a:=a) (b:=b) ⟨za.1,oa⟩ ⟨za.2,ob⟩
    have p2:=qil (P:=fun p=>orQ a b p=0/\orQ c d p=0) (a:=c) (b:=d) ⟨oc,zc.1⟩ ⟨od,zc.2⟩
    exact qpc (P:=fun p=>orQ a b p=0/\orQ c d p=0) p1.1 p2.1
   generalize qe8 (qaQ a b).1 (qaQ c d).1=g at*
   obtain ⟨s,s0,s1,es⟩:=ord_sub hab (qgB k1.2 (ord_or e1.1) gl.1 (qg3 hle ll.1))
   obtain ⟨t,t0,t1,et⟩:=ord_sub hcd (qgB k2.2 (ord_or e1.2) gl.2 (qg3 hle ll.2))
   exact ⟨s,t,s0,s1,t0,t1,by rw [es,et]⟩
  ·rw [if_neg hx] at h;exact absurd h (by simp)
 ·have e:=qkO h0
  unfold mtQ at h
  rw [if_neg h0] at h
  split at h
  ·rename_i hu
   rw [Bool.and_eq_true,qeH,qeH] at hu
   exact ⟨_,_,hu.1.1,hu.1.2,hu.2.1,hu.2.2,e⟩
  ·exact absurd h (by simp)
theorem qyn{a b c d:P2}(hab:a≠b)(hcd:c≠d):mtB a b c d=true↔Cut a b c d:=by
 constructor
 ·intro h
  unfold mtB at h
  rw [Bool.and_eq_true] at h
  exact qrj hab hcd h.2
 ·intro h
  by_cases hm:mtB a b c d=true
  ·exact hm
  ·exact absurd (qkc (Bool.not_eq_true _▸hm) hab hcd) (qsy.1 h)
theorem qBm{a b c d:P2}(hab:a≠b)(hcd:c≠d):rmB a b c d=mtB a b c d:=by
 rw [Bool.eq_iff_iff,qza hab hcd,qyn hab hcd]
theorem qyt{l:List P2}(h0:0<l.length):(List.range l.length).any (stB l)=decide (0<=qdM (flB l) (List.range l.length)):=by
 rw [qfi]
 rw [Bool.eq_iff_iff,List.any_eq_true,List.any_eq_true]
 have e1: ∀i,flB l ((i+1)%l.length)=stB l i:=fun i=>by
  unfold flB stB
  have e1:ix l ((i+1)%l.length+l.length-1)=ix l i:=by
   have:(i+1)%l.length+l.length-1=(i+1)%l.length+(l.length-1):=by omega
   rw [this,qbn,show i+1+(l.length-1)=i+l.length by omega,qs2]
  have e2:ix l ((i+1)%l.length)=ix l (i+1):=by have:=qbn (l:=l) (i+1) 0;simpa using this
  have e3:ix l ((i+1)%l.length+1)=ix l (i+2):=qbn (l:=l) (i+1) 1
  rw [e1,e2,e3]
 constructor
 ·rintro ⟨i,hi,h⟩
  exact ⟨(i+1)%l.length,by simpa using Nat.mod_lt _ h0,by rw [e1];exact h⟩
 ·rintro ⟨i,hi,h⟩
  have hi':i<l.length:=by simpa using hi
  refine ⟨(i+(l.length-1))%l.length,by simpa using Nat.mod_lt _ h0, ?_⟩
  rw [<-e1]
  have:((i+(l.length-1))%l.length+1)%l.length=i:=by
   rw [Nat.mod_add_mod,show i+(l.length-1)+1=i+l.length by omega,Nat.add_mod_right,Nat.mod_eq_of_lt hi']
  rw [this];exact h
theorem qh6{α:Type}{l:List α}{f g:α->Bool}(h: ∀x∈l,f x=g x):l.any f=l.any g:=by
 rw [Bool.eq_iff_iff,List.any_eq_true,List.any_eq_true]
 exact ⟨fun ⟨x,h1,h2⟩=>⟨x,h1,by rw [<-h x h1];exact h2⟩,fun ⟨x,h1,h2⟩=>⟨x,h1,by rw [h x h1];exact h2⟩⟩
def rxB(l:List P2)(i k:Nat):Bool:=decide (i+2<=k)&&(!decide ((k+1)%l.length=i)&&rmB (ix l i) (ix l (i+1)) (ix l k) (ix l (k+1)))
def qrx(l:List P2):Bool:=(List.range l.length).any fun i=>(List.range l.length).any fun k=>rxB l i k
theorem qtv{l:List P2}(h:(List.range l.length).any (stB l)=false){i:Nat}(hi:i<l.length):ix l i≠ix l (i+1):=by
 have:=List.any_eq_false.1 h i (by simpa using hi)
 unfold stB at this
 rw [decide_eq_true_eq,qfn] at this
 exact (qo8 this).1
theorem qzG{l:List P2}(h:(List.range l.length).any (stB l)=false):qrx l=crB l:=by
 unfold qrx crB
 refine qh6 fun i hi=>qh6 fun k hk=> ?_
 have hi':i<l.length:=by simpa using hi
 have hk':k<l.length:=by simpa using hk
 unfold rxB xB
 rw [qBm (qtv h hi') (qtv h hk')]
 by_cases h2:i+2<=k
 ·have:decide ((k+1)%l.length=i)=(decide (i=0)&&decide (k=l.length-1)):=by
   rw [Bool.eq_iff_iff,Bool.and_eq_true,decide_eq_true_eq,decide_eq_true_eq,decide_eq_true_eq]
   by_cases hl:k+1<l.length
   ·rw [Nat.mod_eq_of_lt hl];omega
   ·have:k+1=l.length:=by omega
    rw [this,Nat.mod_self];omega
  rw [this];rfl
 ·rw [decide_eq_false h2];rfl
theorem qqm{l:List P2}(h:tot crQ l≠0):(qfG (tot crQ l/2)<=0)↔(qfG (tot crQ l/2)<0):=by
 have hz:qfG (tot crQ l/2)≠0:=fun e=>by
  rw [qch] at e;apply h;grind
 omega
theorem qtU(l:List P2): ∀i,lsN l i=kf l (i+1)
 |0=>by
  unfold lsN kf kf
  split
  ·rfl
  ·rfl
 |i+1=>by
  rw [lsN,kf,qtU l i]
def frE(l:List P2):Int:=
 if l.length<3\/64<l.length then 4
 else if (List.range l.length).any (stB l)=true then 12
 else if qrx l=true then 13
 else if qfG (tot crQ l/2)<0\/(lsN l (l.length-1):Int)≠0 then 8
 else 0
theorem qxc(l:List P2):frE l=rgE l:=by
 unfold frE rgE
 by_cases h1:l.length<3\/64<l.length
 ·rw [if_pos h1,if_pos h1]
 rw [if_neg h1,if_neg h1]
 have e1:=qyt (l:=l) (by omega)
 by_cases h2:(List.range l.length).any (stB l)=true
 ·have:0<=qdM (flB l) (List.range l.length):=by rw [h2] at e1;exact of_decide_eq_true e1.symm
  rw [if_pos h2,if_pos this]
 have h2':(List.range l.length).any (stB l)=false:=by simpa using h2
 have n2: ¬0<=qdM (flB l) (List.range l.length):=by rw [h2'] at e1;exact of_decide_eq_false e1.symm
 rw [if_neg h2,if_neg n2,qzG h2']
 by_cases h3:crB l=true
 ·rw [if_pos h3,if_pos h3]
 rw [if_neg h3,if_neg h3]
 have hs:RgS l:=⟨by omega,fun i hi=>qjX n2 hi,by simpa using h3⟩
 have ha:tot crQ l≠0:=hs.simp.area_ne
 have e2:lsN l (l.length-1)=kf l l.length:=by rw [qtU,show l.length-1+1=l.length by omega]
 rw [e2]
 have:=qqm ha
 by_cases h4:qfG (tot crQ l/2)<0\/(kf l l.length:Int)≠0
 ·rw [if_pos h4,if_pos (by omega)]
 ·rw [if_neg h4,if_neg (by omega)]
theorem qxp{l:List P2}(h:RgOk l)(p:P2):sdI l p=inV l p:=by
 have hz:=qee.2 h
 have:(List.range l.length).any (qry l p)=onB l p:=by
  unfold onB
  rw [Bool.eq_iff_iff,List.any_eq_true,List.any_eq_true]
  constructor
  ·rintro ⟨i,hi,hb⟩
   have hi':i<l.length:=by simpa using hi
   exact ⟨ed l i,qkf hi',by unfold qry at hb;rw [qtL (h.ne i)] at hb;exact hb⟩
  ·rintro ⟨e,he,hb⟩
   obtain ⟨i,hi,rfl⟩:=qkV he
   exact ⟨i,by simpa using hi,by unfold qry;rw [qtL (h.ne i)];exact hb⟩
 unfold sdI inV
 rw [this,if_neg (c:=rgE l≠0) (fun hh=>hh hz)]
def trP(v p:P2):P2:=(p.1+v.1,p.2+v.2)
def trL(v:P2)(l:List P2):List P2:=l.map (trP v)
def trE(v:P2)(e:P2×P2):P2×P2:=(trP v e.1,trP v e.2)
theorem qui{v p q:P2}:trP v p=trP v q↔p=q:=by
 unfold trP
 constructor
 ·intro h
  simp only [Prod.mk.injEq] at h
  exact Prod.ext (by grind) (by grind)
 ·intro h;rw [h]
theorem qwc(v p q:P2):su (trP v p) (trP v q)=su p q:=by
 unfold su trP;simp only [Prod.mk.injEq];constructor<;>grind
theorem qxn(v a b c:P2):orQ (trP v a) (trP v b) (trP v c)=orQ a b c:=by
 simp only [orQ,trP];grind
theorem qxM(v a b c:P2):orI (trP v a) (trP v b) (trP v c)=orI a b c:=by unfold orI;rw [qxn]
theorem qvN(p q a:Rat):qdo (p+a) (q+a)=qdo p q:=by
 rw [qd4,qd4];unfold qrv
 have h1:(p+a<q+a)↔p<q:=by constructor<;>grind
 have h2:(q+a<p+a)↔q<p:=by constructor<;>grind
 simp only [h1,h2]
theorem qib(v p q:P2):cmP (trP v p) (trP v q)=cmP p q:=by
 unfold cmP trP;simp only [qvN]
theorem qpk(v a b:P2):qaQ (trP v a) (trP v b)=(trP v (qaQ a b).1,trP v (qaQ a b).2):=by
 unfold qaQ;rw [qib];split<;>rfl
theorem qwk(v a b:P2):qe8 (trP v a) (trP v b)=trP v (qe8 a b):=by unfold qe8;rw [qib];split<;>rfl
theorem qwE(v a b:P2):qfV (trP v a) (trP v b)=trP v (qfV a b):=by unfold qfV;rw [qib];split<;>rfl
theorem qx2(v a b c d:P2):(mtQ (trP v a) (trP v b) (trP v c) (trP v d)).isSome=(mtQ a b c d).isSome:=by
 unfold mtQ
 rw [qwc,qwc,qwc]
 by_cases h1:crQ (su b a) (su d c)=0
 ·rw [if_pos h1,if_pos h1]
  by_cases h2:crQ (su b a) (su c a)=0
  ·rw [if_pos h2,if_pos h2,qpk,qpk]
   simp only [qwk,qwE,qib]
   split<;>rfl
  ·rw [if_neg h2,if_neg h2]
 ·rw [if_neg h1,if_neg h1]
  split<;>rfl
theorem qyf(v a b c d:P2):mtB (trP v a) (trP v b) (trP v c) (trP v d)=mtB a b c d:=by
 unfold mtB;rw [qx2];simp only [qui]
theorem qd6(v:P2)(l:List P2):(trL v l).length=l.length:=List.length_map ..
theorem qgW{v:P2}{l:List P2}(h:0<l.length)(i:Nat):ix (trL v l) i=trP v (ix l i):=by
 rw [qgo (l:=trL v l) (by rw [qd6];exact h),qgo h]
 simp only [qd6]
 unfold trL;rw [List.getElem_map]
theorem qtF(v:P2): ∀(l:List P2) (a:P2),prs (trP v a) (trL v l)=(prs a l).map (trE v)
 | [],a=>rfl
 |b::l,a=>by
  show (trP v a,trP v b)::prs (trP v b) (trL v l)=trE v (a,b)::(prs b l).map (trE v)
  rw [qtF v l b];rfl
theorem qzP(v:P2)(l:List P2):cyc (trL v l)=(cyc l).map (trE v):=by
 cases l with
 |nil=>rfl
 |cons a l=>
  show prs (trP v a) (trL v l++ [trP v a])=(prs a (l++ [a])).map (trE v)
  rw [<-qtF];unfold trL;rw [List.map_append];rfl
theorem qm9(f:P2->P2->Rat)(v:P2): ∀E:List (P2×P2),qbM f (E.map (trE v))=qbM (fun p q=>f (trP v p) (trP v q)) E
 | [] =>rfl
 |e::E=>by simp only [List.map_cons,qbM];rw [qm9 f v E];rfl
theorem qBr(v:P2)(l:List P2):tot ar (trL v l)=tot ar l:=by
 have e:=qzP v l
 unfold tot
 rw [e,qm9]
 have c:Cob (fun p q=>ar (trP v p) (trP v q)) ar:=⟨fun p=>v.1*p.2-v.2*p.1,fun p q=>by simp only [ar,trP];grind⟩
 exact c.sum (qgS l)
theorem qxA(v:P2)(l:List P2):tot crQ (trL v l)=tot crQ l:=qBr v l
theorem qxm{v:P2}{l:List P2}(h:0<l.length)(i:Nat):flB (trL v l) i=flB l i:=by
 unfold flB;rw [qd6,qgW h,qgW h,qgW h,qxM]
theorem qCV{v:P2}{l:List P2}(h:0<l.length)(i k:Nat):xB (trL v l) i k=xB l i k:=by
 unfold xB ed;rw [qd6,qgW h,qgW h,qgW h,qgW h,qyf]
theorem qyL{v:P2}{l:List P2}(h:0<l.length):crB (trL v l)=crB l:=by
 unfold crB;rw [qd6]
 simp only [qCV h]
theorem qyj{v:P2}{l:List P2}(h:0<l.length): ∀i,kf (trL v l) i=kf l i
 |0=>rfl
 |i+1=>by
  unfold kf
  rw [qyj h i,qgW h,qgW h,qib]
theorem RgOk.tr{l:List P2}(h:RgOk l)(v:P2):RgOk (trL v l):=by
 have h0:0<l.length:=by have:=h.len;omega
 refine ⟨by rw [qd6];exact h.len,fun i hi=> ?_, ?_, ?_, ?_⟩
 ·rw [qxm h0];exact h.fl i (by rw [qd6] at hi;exact hi)
 ·rw [qyL h0];exact h.cr
 ·rw [qxA];exact h.pos
 ·rw [qd6,qyj h0];exact h.fst
theorem qx7(l:List P2):rgR (l.map cP)=rgE l:=by
 have hl:(l.map cP).length=l.length:=List.length_map ..
 unfold rgR
 rw [qqO,if_pos rfl,qtM,hl]
 by_cases h:l.length<3\/64<l.length
 ·rw [if_pos h];unfold rgE;rw [if_pos h]
 ·rw [if_neg h]
def Hf.tr(H:Hf)(v:P2):Hf:=⟨H.ax,H.up,H.c+(if H.ax then v.1 else v.2)⟩
theorem qnv:canon (1/2)=⟨false,⟨#[1]⟩,⟨#[2]⟩⟩:=by kernel_rfl
theorem qqW:qar (1/2)= .a [.v (.bool false),.v (.string ⟨#[1]⟩),.v (.string ⟨#[2]⟩)] :=by
 unfold qar qfH qfI qf8
 rw [qnv]
theorem qwH:Bd 1 (1/2:Rat):=((qez 1 (n:=0) (by simp)).div (qez 2 (n:=1) (by decide))).mono (by omega)
theorem quV{p:Rat}{n:Nat}(hp:Bd n p)(hn:n<10000000000):Fun Tryz.prog 272 [qar p] [qar (p/2)] :=by
 have h:=qhB (p:=p) (q:=1/2) (.mk hp (by omega)) (.mk qwH (by omega))
 have e:p*(1/2)=p/2:=by grind
 rw [e] at h
 refine qac (fun t=>false) mixed tOk Tryz.func272 rfl rfl ?_
 conv=>whnf
 refine qaZ rfl rfl h ?_ ?_
 ·rw [qqW];rfl
 ·conv=>whnf
  refine ⟨?_,trivial⟩
  conv=>whnf
  exact ⟨rfl,rfl,rfl,trivial⟩
noncomputable def qwp(l:List P2)(i:Nat):St:=
 ⟨fr 24 [(0,.d (.l (pL l))),(2,.ptr 0 0 0),(3,.ptr 1 0 0),(4,.d (i64 i))],
  [.box 23 [.d (.v (.bool false)),.d (.v (.string emp)),.d (.v (.string emp))],
  .box 23 [.d (.v (.bool (qfH (qbM crQ ((cyc l).take i))))),.d (.v (.string (qfI (qbM crQ ((cyc l).take i))))),.d (.v (.string (qf8 (qbM crQ ((cyc l).take i)))))]]⟩
theorem qvB(l:List P2){n:Nat}(hl: ∀p∈l,BP n p)(hn:n<1000000)(hlen:l.length<=1000):Fun Tryz.prog 201 [.l (pL l)] [qar (tot crQ l/2)] :=by
 have hmul: ∀i,i<=l.length->i*(4*n+2)<=1000*(4*1000000+2):=fun i h=>Nat.mul_le_mul (by omega) (by omega)
 have hll:(pL l).length=l.length:=by simp
 refine qac (fun t=>t==2||t==3) mixed tOk Tryz.func201 rfl rfl ?_
 conv=>whnf
 refine qah (fun t=>t==2||t==3) (fun i:Nat=>qwp l i) (fun i=>i<=l.length) (fun i=>l.length-i) 0 mixed tOk (by omega) ?_ ?_
 ·unfold qwp
  simp only [List.take_zero,qbM,qdb,qde,qdf]
  refine qag ?_ ?_<;>repeat' (first|exact trivial|exact rfl|apply And.intro)
 ·intro i hi
  conv=>whnf
  refine qaf (fun hlt=> ?_) (fun hge=> ?_)
  ·have hlt':i<l.length:=by rw [qcq] at hlt;omega
   have hm:=qbT hlt'
   have b1:=hl l[i] (List.getElem_mem _)
   have b2:=hl (l[(i+1)%l.length]'hm) (List.getElem_mem _)
   have b0:=qec hl i hi
   have hmi:=hmul _ hi
   conv=>whnf
   refine qae (pD l[i]) (qgq hlt') (by omega) (qaX l) ?_
   conv=>whnf
   refine qab (qjg hlt' hlen) ?_
   conv=>whnf
   refine qab (qgO b1 b2 (by omega)) ?_
   conv=>whnf
   refine qab (qmH (.mk b0 (by omega)) (.mk (b1.cr b2) (by omega))) ?_
   conv=>whnf
   refine qad (by kernel_rfl) ?_
   conv=>whnf
   refine qak (by omega) ?_
   conv=>whnf
   refine ⟨i+1,by omega,by omega, ?_⟩
   unfold qwp
   rw [qcX hlt',qcG,qjx,Int.natCast_succ]
   refine qag ?_ ?_<;>repeat' (first|exact trivial|exact rfl|apply And.intro)
  ·have:i=l.length:=by rw [qcq] at hge;omega
   subst this
   have hb:Bd (1000*(4*1000000+2)) (qbM crQ ((cyc l).take l.length)):=(qec hl _ hi).mono (hmul _ hi)
   rw [<-qhL]
   conv=>whnf
   refine qaa rfl rfl (quV hb (by omega)) ?_
   conv=>whnf
   refine ⟨?_,trivial⟩
   conv=>whnf
   exact ⟨rfl,rfl,rfl,trivial⟩
theorem qxQ{l:List P2}{i k:Nat}(h1:i<l.length)(h2:k<l.length)(h:rxB l i k=true):qrx l=true:=by
 unfold qrx
 exact List.any_eq_true.2 ⟨i,by simpa using h1,List.any_eq_true.2 ⟨k,by simpa using h2,h⟩⟩
theorem qx4{l:List P2}(h: ∀i k,i<l.length->k<l.length->rxB l i k=false):qrx l=false:=by
 unfold qrx
 rw [List.any_eq_false];intro i hi
 rw [Bool.not_eq_true,List.any_eq_false];intro k hk
 rw [h i k (by simpa using hi) (by simpa using hk)];simp
def qxf(l:List P2)(i:Nat):St:=⟨fr 43 [(0,.d (.l (pL l))),(3,.d (i64 (pL l).length)),(4,.d (i64 i))], []⟩
def qpr(l:List P2)(i k:Nat):St:=⟨fr 43 [(0,.d (.l (pL l))),(3,.d (i64 (pL l).length)),(4,.d (i64 i)),(5,.d (i64 k))], []⟩
theorem qlQ{l:List P2}{n:Nat}(hl: ∀p∈l,BP n p)(hn:n<1000000)(hlen:l.length<=1000):Fun Tryz.prog 199 [.l (pL l)] [.v (.bool (qrx l))] :=by
 have hll:(pL l).length=l.length:=by simp
 refine qac (fun t=>false) mixed tOk Tryz.func199 rfl rfl ?_
 conv=>whnf
 refine qah (fun t=>false) (fun i:Nat=>qxf l i) (fun i=>i<=l.length/\ ∀j k,j<i->k<l.length->rxB l j k=false) (fun i=>l.length-i) 0 mixed tOk ⟨by omega,fun j k hj=>by omega⟩ ?_ ?_
 ·refine qag ?_ ?_<;>repeat' (first|exact trivial|exact rfl|apply And.intro)
 ·rintro i ⟨hi,hno⟩
  conv=>whnf
  refine qaf (fun hlt=> ?_) (fun hge=> ?_)
  ·have hlt':i<l.length:=by omega
   have h0:0<l.length:=by omega
   conv=>whnf
   refine qak (by omega) ?_
   conv=>whnf
   refine qah (fun t=>false) (fun k:Nat=>qpr l i k) (fun k=>i+2<=k/\ ∀j,j<k->j<l.length->rxB l i j=false) (fun k=>l.length-k) (i+2) mixed tOk ⟨by omega,fun j hj _=> ?_⟩ ?_ ?_
   ·unfold rxB;rw [decide_eq_false (by omega)];rfl
   ·refine qag ?_ ?_<;>repeat' (first|exact trivial|exact rfl|apply And.intro)
   ·rintro k ⟨hk,hnok⟩
    have step:k<l.length->rxB l i k=false-> ∀j,j<k+1->j<l.length->rxB l i j=false:=fun _ h j hj hjl=>by
     by_cases hjk:j=k
     ·subst hjk;exact h
     ·exact hnok j (by omega) hjl
    conv=>whnf
    refine qaf (fun hlt2=> ?_) (fun hge2=> ?_)
    ·have hlt2':k<l.length:=by omega
     have e3:Int.tmod ((k:Int)+1) ((pL l).length:Int)=(((k+1)%l.length:Nat):Int):=by
      rw [qcq,show ((k:Int)+1)=((k+1:Nat):Int) from rfl,qdy]
     have b0:=hl _ (qbr (l:=l) (k:=i) (by omega))
     have b1:=hl _ (qbr (l:=l) (k:=i+1) (by omega))
     have b2:=hl _ (qbr (l:=l) (k:=k) (by omega))
     have b3:=hl _ (qbr (l:=l) (k:=k+1) (by omega))
     conv=>whnf
     refine qak (by omega) ?_
     conv=>whnf
     refine qak (by omega) ?_
     conv=>whnf
     rw [e3]
     refine qat (fun c1=> ?_) (fun c1=> ?_)
     ·have hz:rxB l i k=rmB (ix l i) (ix l (i+1)) (ix l k) (ix l (k+1)):=by
       unfold rxB;rw [decide_eq_true hk,decide_eq_false (show¬(k+1)%l.length=i by omega)];rfl
      conv=>whnf
      refine qae (pD (ix l i)) (qdW hlt') (by omega) (qaX l) ?_
      conv=>whnf
      refine qab (qfm hlt' hlen) ?_
      conv=>whnf
      refine qae (pD (ix l k)) (qdW hlt2') (by omega) (qaX l) ?_
      conv=>whnf
      refine qab (qfm hlt2' hlen) ?_
      conv=>whnf
      refine qab (qst b0 b1 b2 b3 hn) ?_
      conv=>whnf
      refine qad (by kernel_rfl) ?_
      conv=>whnf
      refine qal (fun c3=> ?_) (fun c3=> ?_)
      ·rw [qxQ hlt' hlt2' (by rw [hz];exact c3)]
       conv=>whnf
       refine ⟨?_,trivial⟩
       conv=>whnf
      ·have hx:rxB l i k=false:=by rw [hz];exact c3
       conv=>whnf
       refine qak (by omega) ?_
       conv=>whnf
       refine ⟨k+1,⟨by omega,step hlt2' hx⟩,by omega, ?_⟩
       unfold qpr;rw [Int.natCast_succ]
       refine qag ?_ ?_<;>repeat' (first|exact trivial|exact rfl|apply And.intro)
     ·have hx:rxB l i k=false:=by
       unfold rxB;rw [decide_eq_true (show (k+1)%l.length=i by omega)];simp
      conv=>whnf
      refine qad (by kernel_rfl) ?_
      conv=>whnf
      refine qak (by omega) ?_
      conv=>whnf
      refine ⟨k+1,⟨by omega,step hlt2' hx⟩,by omega, ?_⟩
      unfold qpr;rw [Int.natCast_succ]
      refine qag ?_ ?_<;>repeat' (first|exact trivial|exact rfl|apply And.intro)
    ·conv=>whnf
     refine qak (by omega) ?_
     conv=>whnf
     refine ⟨i+1,⟨by omega,fun j k' hj hk'=> ?_⟩,by omega, ?_⟩
     ·by_cases hji:j=i
      ·subst hji;exact hnok k' (by omega) hk'
      ·exact hno j k' (by omega) hk'
     unfold qxf;rw [Int.natCast_succ]
     refine qag ?_ ?_<;>repeat' (first|exact trivial|exact rfl|apply And.intro)
  ·have:i=l.length:=by omega
   subst this
   rw [qx4 (fun i k hi hk=>hno i k hi hk)]
   conv=>whnf
   refine ⟨?_,trivial⟩
   conv=>whnf
theorem qhg(l:List (RD×RD)){n:Nat}(hz: ∀p∈l,SzP p)(hl: ∀p∈l,BP n (vP p))(hn:n<1000000)(hlen:l.length<=1000):Fun Tryz.prog 141 [.l (rL l)] [i64 (rgR l)] :=by
 have hll:(rL l).length=l.length:=by simp
 refine qac (fun t=>false) mixed tOk Tryz.func141 rfl rfl ?_
 conv=>whnf
 refine qaf (fun h1=> ?_) (fun h1=> ?_)
 ·have e:rgR l=4:=by unfold rgR;rw [if_pos (by omega)]
  rw [e]
  conv=>whnf
  exact ⟨rfl,trivial⟩
 conv=>whnf
 refine qaf (fun h2=> ?_) (fun h2=> ?_)
 ·have e:rgR l=4:=by unfold rgR;rw [if_pos (by omega)]
  rw [e]
  conv=>whnf
  exact ⟨rfl,trivial⟩
 conv=>whnf
 refine qaa rfl rfl (qsm hz (by omega)) ?_
 conv=>whnf
 refine qbb (fun h3=> ?_) (fun h3=> ?_)
 ·have e:rgR l=1:=by unfold rgR;rw [if_neg (by omega),h3];rfl
  rw [e]
  conv=>whnf
  exact ⟨rfl,trivial⟩
 have e0:rgR l=rgE (l.map vP):=by unfold rgR;rw [if_neg (by omega),if_pos h3]
 rw [e0,qga h3, <-qxc]
 have hm: ∀p∈l.map vP,BP n p:=fun p hp=>by
  obtain ⟨q,hq,rfl⟩:=List.mem_map.1 hp
  exact hl q hq
 have hml:(l.map vP).length=l.length:=List.length_map ..
 generalize hM:l.map vP=m at hm hml ⊢
 have r0:frE m=if (List.range m.length).any (stB m)=true then 12 else if qrx m=true then 13 else if qfG (tot crQ m/2)<0\/(lsN m (m.length-1):Int)≠0 then 8 else 0:=by
  unfold frE;rw [if_neg (by omega)]
 rw [r0]
 have hk4:=qle hm hn (by omega)
 generalize (List.range m.length).any (stB m)=z4 at*
 conv=>whnf
 refine qaa rfl rfl hk4 ?_
 conv=>whnf
 refine qal (fun h4=> ?_) (fun h4=> ?_)
 ·rw [if_pos h4]
  conv=>whnf
  exact ⟨rfl,trivial⟩
 rw [if_neg (by rw [h4];decide)]
 conv=>whnf
 refine qaa rfl rfl (qlQ hm hn (by omega)) ?_
 conv=>whnf
 refine qal (fun h5=> ?_) (fun h5=> ?_)
 ·rw [if_pos h5]
  conv=>whnf
  exact ⟨rfl,trivial⟩
 rw [if_neg (by rw [h5];decide)]
 have hta:Bd (1000*(4*n+2)+1) (tot crQ m/2):=by
  have:=qec hm m.length (Nat.le_refl _)
  rw [qhL] at this
  refine (this.div (qez 2 (n:=1) (by decide))).mono ?_
  have:m.length*(4*n+2)<=1000*(4*n+2):=Nat.mul_le_mul_right _ (by omega)
  omega
 conv=>whnf
 refine qaa rfl rfl (qvB m hm (by omega) (by omega)) ?_
 conv=>whnf
 refine qaa rfl rfl (qiL (.mk hta (by omega))) ?_
 conv=>whnf
 refine qaf (fun h6=> ?_) (fun h6=> ?_)
 ·rw [if_pos (.inl h6)]
  conv=>whnf
  exact ⟨rfl,trivial⟩
 conv=>whnf
 refine qaa rfl rfl (qr4 hm hn (by omega) (by omega)) ?_
 conv=>whnf
 refine qat (fun h7=> ?_) (fun h7=> ?_)
 ·rw [if_pos (.inr h7)]
  conv=>whnf
  exact ⟨rfl,trivial⟩
 ·rw [if_neg (by rintro (h|h)<;>contradiction)]
  conv=>whnf
  exact ⟨rfl,trivial⟩
theorem qpV{l:List P2}{n:Nat}(hl: ∀p∈l,BP n p)(hn:n<1000000)(hlen:l.length<=1000):Fun Tryz.prog 141 [.l (pL l)] [i64 (rgE l)] :=by
 have h:=qhg (l.map cP) (n:=n) (fun p hp=>by obtain ⟨q,hq,rfl⟩:=List.mem_map.1 hp;exact (hl q hq).szp (by omega))
  (fun p hp=>by obtain ⟨q,hq,rfl⟩:=List.mem_map.1 hp;rw [qvR];exact hl q hq) hn (by simpa using hlen)
 rw [qwM,qx7] at h
 exact h
theorem qo2{l:List P2}{p:P2}{n:Nat}(hr:RgOk l)(hl: ∀p∈l,BP n p)(hp:BP n p)(hn:n<1000000):Fun Tryz.prog 152 [.l (pL l),pD p] [i64 (inV l p),i64 0] :=by
 have hlen:=hr.len
 have h1:=qpV hl hn (by omega)
 rw [qee.2 hr] at h1
 have h2:=qo6 (hp.q (by omega)).1 (hp.q (by omega)).2
 have h3:=qun hl hp hn (by omega)
 rw [qxp hr] at h3
 refine qac (fun t=>false) mixed tOk Tryz.func152 rfl rfl ?_
 conv=>whnf
 refine qaa rfl rfl h1 ?_
 conv=>whnf
 refine qbp (by decide) ?_
 conv=>whnf
 refine qaa rfl rfl h2 ?_
 conv=>whnf
 refine qbp (by decide) ?_
 conv=>whnf
 refine qaa rfl rfl h3 ?_
 conv=>whnf
 refine ⟨?_, ?_,trivial⟩
 ·conv=>whnf
 ·conv=>whnf
theorem qhM{l:List P2}{p:P2}{n:Nat}(hr:RgOk l)(hl: ∀p∈l,BP n p)(hp:BP n p)(hn:n<1000000):Fun Tryz.prog 143 [.l (pL l),pD p] [.v (.bool (decide (inV l p=1)))] :=by
 refine qac (fun t=>false) mixed tOk Tryz.func143 rfl rfl ?_
 conv=>whnf
 refine qaa rfl rfl (qo2 hr hl hp hn) ?_
 conv=>whnf
 refine ⟨?_,trivial⟩
 conv=>whnf
 rw [qay]
 rfl
end Go.Nv
end
