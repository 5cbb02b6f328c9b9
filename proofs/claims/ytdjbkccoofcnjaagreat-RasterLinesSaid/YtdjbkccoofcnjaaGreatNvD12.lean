import Derived.Test.YtdjbkccoofcnjaaGreatNvD11
import Derived.Test.YtdjbkccoofcnjaaGreatNvD1
import Derived.Test.YtdjbkccoofcnjaaGreatNvD6
set_option linter.all false
set_option maxRecDepth 100000
section
namespace Go.Nv
open Go.Proofs Nw
def lsN(l:List P2):Nat→Nat
 |0=>0
 |i+1=>if cmP (ix l (i+1)) (ix l (lsN l i))<0 then i+1 else lsN l i
theorem lsN_le(l:List P2): ∀i,lsN l i≤i
 |0=>Nat.le_refl _
 |i+1=>by
  have:=lsN_le l i
  unfold lsN
  split<;>omega
theorem fleast_c{l:List P2}{n:Nat}(hl: ∀p∈l,BP n p)(hn:n<1000000)(h0:0<l.length)(hlen:l.length≤1000):Fun Tryz.prog 237 [.l (pL l)] [i64 (lsN l (l.length-1))] :=by
 have hll:(pL l).length=l.length:=by simp
 refine fun_of_go (fun t=>false) mixed tOk Tryz.func237 rfl rfl ?_
 conv=>whnf
 refine loop_intro (fun t=>false) (fun i:Nat=>⟨fr 23 [(0,.d (.l (pL l))),(3,.d (i64 (lsN l i))),(4,.d (i64 (i+1:Nat)))], []⟩) (fun i=>i+1≤l.length) (fun i=>l.length-i) 0 mixed tOk (by omega) ?_ ?_
 ·refine weak_r ?_ ?_<;>repeat' (first|exact trivial|exact rfl|apply And.intro)
 ·intro i hi
  have hle:=lsN_le l i
  conv=>whnf
  refine cond_d (fun hlt=> ?_) (fun hge=> ?_)
  ·have hlt':i+1<l.length:=by omega
   have q1:=(hl _ (ix_mem (l:=l) (k:=i+1) h0)).q (by omega)
   have q2:=(hl _ (ix_mem (l:=l) (k:=lsN l i) h0)).q (by omega)
   conv=>whnf
   refine idx_intro (pD (ix l (i+1))) (ix_at hlt') (by omega) (pL_uni l) ?_
   conv=>whnf
   refine idx_intro (pD (ix l (lsN l i))) (ix_at (by omega)) (by omega) (pL_uni l) ?_
   conv=>whnf
   refine callv_data (fcmp2_c q1 q2) ?_
   conv=>whnf
   refine safe_intro (by kernel_rfl) ?_
   conv=>whnf
   refine cond_d (fun c1=> ?_) (fun c1=> ?_)
   ·have e:lsN l (i+1)=i+1:=by rw [lsN,if_pos c1]
    conv=>whnf
    refine sd_d (by omega) ?_
    conv=>whnf
    refine ⟨i+1,by omega,by omega, ?_⟩
    rw [e,show (((i+1:Nat):Int)+1)=((i+1+1:Nat):Int) from rfl]
    refine weak_r ?_ ?_<;>repeat' (first|exact trivial|exact rfl|apply And.intro)
   ·have e:lsN l (i+1)=lsN l i:=by rw [lsN,if_neg c1]
    conv=>whnf
    refine sd_d (by omega) ?_
    conv=>whnf
    refine ⟨i+1,by omega,by omega, ?_⟩
    rw [e,show (((i+1:Nat):Int)+1)=((i+1+1:Nat):Int) from rfl]
    refine weak_r ?_ ?_<;>repeat' (first|exact trivial|exact rfl|apply And.intro)
  ·have hiE:i=l.length-1:=by omega
   rw [←hiE]
   conv=>whnf
   refine ⟨?_,trivial⟩
   conv=>whnf
theorem fedges_c(l:List P2)(hlen:l.length≤1000):Fun Tryz.prog 238 [.l (pL l)] [.l (eL (cyc l))] :=by
 have hll:(pL l).length=l.length:=by simp
 refine fun_of_go (fun t=>false) mixed tOk Tryz.func238 rfl rfl ?_
 conv=>whnf
 refine loop_intro (fun t=>false) (fun i:Nat=>⟨fr 23 [(0,.d (.l (pL l))),(3,.own 1 0),(4,.d (i64 i))], [.dead,.row 0 46 12 160 (eL ((cyc l).take i))]⟩) (fun i=>i≤l.length) (fun i=>l.length-i) 0 mixed tOk (by omega) ?_ ?_
 ·refine weak_dead 0 rfl ?_
  refine weak_r ?_ ?_<;>repeat' (first|exact trivial|exact rfl|apply And.intro)
 ·intro i hi
  conv=>whnf
  refine cond_d (fun hlt=> ?_) (fun hge=> ?_)
  ·have hlt':i<l.length:=by omega
   have hm:=mod_lt' hlt'
   have e:eL ((cyc l).take (i+1))=eL ((cyc l).take i)++ [sD l[i] (l[(i+1)%l.length]'hm)] :=by rw [cyc_take hlt'];simp only [eL,List.map_append,List.map_cons,List.map_nil]
   have hll2:(eL ((cyc l).take i)).length≤1000:=by simp [cyc_len];omega
   have hAu:Uni 12 (eL ((cyc l).take i)):=eL_uni _
   have hnx:=fnext_c hlt' hlen
   have hgt:=pL_get hlt'
   generalize eL ((cyc l).take i)=A at*
   generalize l[i] =a at*
   generalize l[(i+1)%l.length] =b at*
   conv=>whnf
   refine idx_intro (pD a) hgt (by omega) (pL_uni l) ?_
   conv=>whnf
   refine callv_data hnx ?_
   conv=>whnf
   refine sd_app hAu (by intro x hx;rcases List.mem_singleton.1 hx with rfl;rfl) (by simp only [maxLen,List.length_cons,List.length_nil];omega) ?_
   conv=>whnf
   refine safe_intro (by kernel_rfl) ?_
   conv=>whnf
   refine sd_d (by omega) ?_
   conv=>whnf
   refine ⟨i+1,by omega,by omega, ?_⟩
   rw [e,Int.natCast_succ]
   refine weak_r ?_ ?_<;>repeat' (first|exact trivial|exact rfl|apply And.intro)
  ·have hiE:i=l.length:=by omega
   subst hiE
   rw [show (cyc l).take l.length=cyc l from by rw [←cyc_len l];exact List.take_length]
   conv=>whnf
   refine ⟨?_,trivial⟩
   conv=>whnf
theorem sgnI_le{p:Rat}:sgnI p≤0↔p≤0:=by
 rw [sgnI_eq];unfold sgnQ
 by_cases h1:p<0
 ·rw [if_pos h1];exact ⟨fun _=>by grind,fun _=>by decide⟩
 ·rw [if_neg h1]
  by_cases h2:0<p
  ·rw [if_pos h2];exact ⟨fun h=>absurd h (by decide),fun h=>by grind⟩
  ·rw [if_neg h2];exact ⟨fun _=>by grind,fun _=>by decide⟩
theorem be_on{a b p:P2}(hab:a≠b):beB a b p=true↔ ∃t:Rat,0≤t∧t≤1∧lin a b t=p:=by
 unfold beB
 rw [Bool.and_eq_true,decide_eq_true_eq,decide_eq_true_eq,orI_zero,sgnI_le]
 have hd:0<(b.1-a.1)*(b.1-a.1)+(b.2-a.2)*(b.2-a.2):=sq_pos fun h=>hab (Prod.ext (by grind) (by grind))
 constructor
 ·rintro ⟨ho,hp⟩
  obtain ⟨D,hD⟩: ∃D,D=(b.1-a.1)*(b.1-a.1)+(b.2-a.2)*(b.2-a.2):=⟨_,rfl⟩
  rw [←hD] at hd
  have hd0:D≠0:=by grind
  obtain ⟨t,ht⟩: ∃t,t=((p.1-a.1)*(b.1-a.1)+(p.2-a.2)*(b.2-a.2))/D:=⟨_,rfl⟩
  have htD:t*D=(p.1-a.1)*(b.1-a.1)+(p.2-a.2)*(b.2-a.2):=by rw [ht];grind
  simp only [orQ] at ho
  have e1:(p.1-a.1)*D=(b.1-a.1)*(t*D):=by rw [htD,hD];grind
  have e2:(p.2-a.2)*D=(b.2-a.2)*(t*D):=by rw [htD,hD];grind
  have f1:p.1-a.1=(b.1-a.1)*t:=by grind
  have f2:p.2-a.2=(b.2-a.2)*t:=by grind
  have hq:doQ (su a p) (su b p)= -(t*(1-t))*D:=by
   simp only [doQ,su]
   have g1:a.1-p.1= -((b.1-a.1)*t):=by grind
   have g2:a.2-p.2= -((b.2-a.2)*t):=by grind
   have g3:b.1-p.1=(b.1-a.1)*(1-t):=by grind
   have g4:b.2-p.2=(b.2-a.2)*(1-t):=by grind
   rw [g1,g2,g3,g4,hD];grind
  rw [hq] at hp
  have hk:0≤t*(1-t):=by
   by_cases h:0≤t*(1-t)
   ·exact h
   ·have:=Rat.mul_pos (show 0< -(t*(1-t)) by grind) hd
    grind
  have t0:0≤t:=by
   by_cases h:0≤t
   ·exact h
   ·have:=Rat.mul_pos (show 0< -t by grind) (show 0<1-t by grind)
    grind
  have t1:t≤1:=by
   by_cases h:t≤1
   ·exact h
   ·have:=Rat.mul_pos (show 0<t by grind) (show 0<t-1 by grind)
    grind
  exact ⟨t,t0,t1,Prod.ext (by simp only [lin];grind) (by simp only [lin];grind)⟩
 ·rintro ⟨t,t0,t1,rfl⟩
  refine ⟨by simp only [orQ,lin];grind, ?_⟩
  have hq:doQ (su a (lin a b t)) (su b (lin a b t))= -(t*(1-t))*((b.1-a.1)*(b.1-a.1)+(b.2-a.2)*(b.2-a.2)):=by
   simp only [doQ,su,lin];grind
  rw [hq]
  have:=Rat.mul_nonneg (Rat.mul_nonneg t0 (show 0≤1-t by grind)) (show 0≤(b.1-a.1)*(b.1-a.1)+(b.2-a.2)*(b.2-a.2) by grind)
  grind
theorem be_bet{a b p:P2}(hab:a≠b):beB a b p=betB a b p:=by
 rw [Bool.eq_iff_iff,be_on hab,bet_on hab]
def Cut(a b c d:P2):Prop:= ∃s t:Rat,0≤s∧s≤1∧0≤t∧t≤1∧lin a b s=lin c d t
theorem cut_disj{a b c d:P2}:Cut a b c d↔ ¬Disj a b c d:=by
 constructor
 ·rintro ⟨s,t,h1,h2,h3,h4,h5⟩ h
  exact h s t h1 h2 h3 h4 h5
 ·exact not_disj
theorem onLine{a b p:P2}(hab:a≠b)(h:orQ a b p=0): ∃t:Rat,p=lin a b t:=by
 simp only [orQ] at h
 by_cases hx:a.1=b.1
 ·have hy:b.2-a.2≠0:=fun hy=>hab (Prod.ext hx (by grind))
  refine ⟨(p.2-a.2)/(b.2-a.2),Prod.ext ?_ ?_⟩
  ·simp only [lin]
   have hz:(b.2-a.2)*(p.1-a.1)=0:=by rw [hx] at h ⊢;grind
   rcases Rat.mul_eq_zero.1 hz with h1|h1
   ·exact absurd h1 hy
   ·rw [hx] at h1 ⊢;grind
  ·simp only [lin];grind
 ·have hn:b.1-a.1≠0:=by grind
  refine ⟨(p.1-a.1)/(b.1-a.1),Prod.ext ?_ ?_⟩
  ·simp only [lin];grind
  ·simp only [lin];grind
theorem orI_neg2{x y:Rat}:sgnI x*sgnI y<0↔x*y<0:=by
 rw [sgnI_eq,sgnI_eq];unfold sgnQ
 by_cases x1:x<0
 ·rw [if_pos x1]
  by_cases y1:y<0
  ·rw [if_pos y1]
   have:=Rat.mul_pos (show 0< -x by grind) (show 0< -y by grind)
   exact ⟨fun h=>absurd h (by decide),fun h=>by grind⟩
  ·rw [if_neg y1]
   by_cases y2:0<y
   ·rw [if_pos y2]
    have:=Rat.mul_pos (show 0< -x by grind) y2
    exact ⟨fun _=>by grind,fun _=>by decide⟩
   ·rw [if_neg y2]
    have:y=0:=by grind
    subst this
    exact ⟨fun h=>absurd h (by decide),fun h=>by grind⟩
 ·rw [if_neg x1]
  by_cases x2:0<x
  ·rw [if_pos x2]
   by_cases y1:y<0
   ·rw [if_pos y1]
    have:=Rat.mul_pos x2 (show 0< -y by grind)
    exact ⟨fun _=>by grind,fun _=>by decide⟩
   ·rw [if_neg y1]
    by_cases y2:0<y
    ·rw [if_pos y2]
     have:=Rat.mul_pos x2 y2
     exact ⟨fun h=>absurd h (by decide),fun h=>by grind⟩
    ·rw [if_neg y2]
     have:y=0:=by grind
     subst this
     exact ⟨fun h=>absurd h (by decide),fun h=>by grind⟩
  ·rw [if_neg x2]
   have:x=0:=by grind
   subst this
   refine ⟨fun h=> ?_,fun h=>by grind⟩
   rw [Int.zero_mul] at h;exact absurd h (by decide)
theorem orQ_rev(a b p:P2):orQ b a p= -orQ a b p:=by simp only [orQ];grind
theorem mid_of{x y:Rat}(h:x*y<0):0≤x/(x-y)∧x/(x-y)≤1:=by
 by_cases hx:0<x
 ·have hy:y<0:=by
   by_cases hy:y<0
   ·exact hy
   ·have:=Rat.mul_nonneg (show 0≤x by grind) (show 0≤y by grind);grind
  exact div_unit (by grind) (by grind) (by grind)
 ·have hx':x<0:=by
   by_cases e:x=0
   ·subst e;grind
   ·grind
  have hy:0<y:=by
   by_cases hy:0<y
   ·exact hy
   ·have:=Rat.mul_nonneg (show 0≤ -x by grind) (show 0≤ -y by grind);grind
  have:=div_unit (x:= -x) (y:=y-x) (by grind) (by grind) (by grind)
  have e:x/(x-y)= -x/(y-x):=by
   have h1:x-y≠0:=by grind
   have h2:y-x≠0:=by grind
   grind
  rw [e];exact this
theorem proper_cut{a b c d:P2}(h1:orQ a b c*orQ a b d<0)(h2:orQ c d a*orQ c d b<0):Cut a b c d:=by
 have k1:=mid_of h1
 have k2:=mid_of h2
 refine ⟨_,_,k2.1,k2.2,k1.1,k1.2, ?_⟩
 have n1:orQ a b c-orQ a b d≠0:=by
  intro h
  have e:orQ a b c=orQ a b d:=by grind
  have hs: ∀z:Rat,0≤z*z:=fun z=>by
   by_cases hz:0≤z
   ·exact Rat.mul_nonneg hz hz
   ·have:=Rat.mul_nonneg (show 0≤ -z by grind) (show 0≤ -z by grind);grind
  rw [e] at h1
  have:=hs (orQ a b d);grind
 have n2:orQ c d a-orQ c d b≠0:=by
  simp only [orQ] at n1 ⊢;grind
 generalize hs:orQ c d a/(orQ c d a-orQ c d b)=s
 generalize ht:orQ a b c/(orQ a b c-orQ a b d)=t
 have hs':s*(orQ c d a-orQ c d b)=orQ c d a:=by rw [←hs];grind
 have ht':t*(orQ a b c-orQ a b d)=orQ a b c:=by rw [←ht];grind
 have eN:orQ c d a-orQ c d b=orQ a b d-orQ a b c:=by simp only [orQ];grind
 obtain ⟨N,hN⟩: ∃N,N=orQ a b d-orQ a b c:=⟨_,rfl⟩
 rw [eN, ←hN] at hs'
 have ht2:t*N= -orQ a b c:=by rw [hN];grind
 have hN0:N≠0:=by rw [hN];grind
 have hNe:N=(b.1-a.1)*(d.2-c.2)-(b.2-a.2)*(d.1-c.1):=by rw [hN];simp only [orQ];grind
 simp only [orQ] at hs' ht2
 refine Prod.ext ?_ ?_
 ·simp only [lin]
  have:(a.1+(b.1-a.1)*s)*N=(c.1+(d.1-c.1)*t)*N:=by
   have l1:(a.1+(b.1-a.1)*s)*N=a.1*N+(b.1-a.1)*(s*N):=by grind
   have l2:(c.1+(d.1-c.1)*t)*N=c.1*N+(d.1-c.1)*(t*N):=by grind
   rw [l1,l2,hs',ht2,hNe];grind
  grind
 ·simp only [lin]
  have:(a.2+(b.2-a.2)*s)*N=(c.2+(d.2-c.2)*t)*N:=by
   have l1:(a.2+(b.2-a.2)*s)*N=a.2*N+(b.2-a.2)*(s*N):=by grind
   have l2:(c.2+(d.2-c.2)*t)*N=c.2*N+(d.2-c.2)*(t*N):=by grind
   rw [l1,l2,hs',ht2,hNe];grind
  grind
theorem Cut.symm{a b c d:P2}:Cut a b c d→Cut c d a b:=fun ⟨s,t,h1,h2,h3,h4,h5⟩=>⟨t,s,h3,h4,h1,h2,h5.symm⟩
theorem cut_ends{a b c d:P2}(hab:a≠b)(hcd:c≠d)(h:Cut a b c d)(hn: ¬orQ a b c*orQ a b d<0):
  (∃t:Rat,0≤t∧t≤1∧lin a b t=c)∨(∃t:Rat,0≤t∧t≤1∧lin a b t=d)∨(∃t:Rat,0≤t∧t≤1∧lin c d t=a):=by
 obtain ⟨s,t,s0,s1,t0,t1,he⟩:=h
 have hz:(1-t)*orQ a b c+t*orQ a b d=0:=by
  have h1:=orQ_lin a b c d t
  rw [←he,orQ_self] at h1
  grind
 by_cases h1:orQ a b c=0
 ·by_cases h2:orQ a b d=0
  ·obtain ⟨γ,rfl⟩:=onLine hab h1
   obtain ⟨δ,rfl⟩:=onLine hab h2
   have hs:s=γ+(δ-γ)*t:=by
    have e1:=congrArg Prod.fst he
    have e2:=congrArg Prod.snd he
    simp only [lin] at e1 e2
    by_cases hx:b.1-a.1=0
    ·have hy:b.2-a.2≠0:=fun hy=>hab (Prod.ext (by grind) (by grind))
     have:(b.2-a.2)*(s-(γ+(δ-γ)*t))=0:=by grind
     rcases Rat.mul_eq_zero.1 this with h|h
     ·exact absurd h hy
     ·grind
    ·have:(b.1-a.1)*(s-(γ+(δ-γ)*t))=0:=by grind
     rcases Rat.mul_eq_zero.1 this with h|h
     ·exact absurd h hx
     ·grind
   by_cases g1:0≤γ∧γ≤1
   ·exact .inl ⟨γ,g1.1,g1.2,rfl⟩
   by_cases g2:0≤δ∧δ≤1
   ·exact .inr (.inl ⟨δ,g2.1,g2.2,rfl⟩)
   right;right
   have hm1:=Rat.mul_nonneg t0 (show 0≤1-t by grind)
   have hgd:γ≠δ:=fun e=>by rw [e] at hcd;exact hcd rfl
   have key:0≤(0-γ)/(δ-γ)∧(0-γ)/(δ-γ)≤1:=by
    by_cases hlt:γ<0
    ·have:0<δ:=by
      by_cases hd:0<δ
      ·exact hd
      ·have hd':δ<0:=by
        by_cases e:δ=0
        ·exact absurd ⟨by grind,by grind⟩ g2
        ·grind
       have n1:=Rat.mul_nonneg t0 (show 0≤ -δ by grind)
       have n2:=Rat.mul_nonneg (show 0≤1-t by grind) (show 0≤ -γ by grind)
       by_cases et:t=0
       ·subst et;grind
       ·have:=Rat.mul_pos (show 0<t by grind) (show 0< -δ by grind)
        grind
     exact div_unit (by grind) (by grind) (by grind)
    ·have hg:1<γ:=by
      by_cases h:1<γ
      ·exact h
      ·exact absurd ⟨by grind,by grind⟩ g1
     have:δ<0:=by
      by_cases hd:δ<0
      ·exact hd
      ·have hd':1<δ:=by
        by_cases h:1<δ
        ·exact h
        ·exact absurd ⟨by grind,by grind⟩ g2
       have n1:=Rat.mul_nonneg t0 (show 0≤δ-1 by grind)
       have n2:=Rat.mul_nonneg (show 0≤1-t by grind) (show 0≤γ-1 by grind)
       by_cases et:t=0
       ·subst et;grind
       ·have:=Rat.mul_pos (show 0<t by grind) (show 0<δ-1 by grind)
        grind
     have:=div_unit (x:=γ) (y:=γ-δ) (by grind) (by grind) (by grind)
     have e:(0-γ)/(δ-γ)=γ/(γ-δ):=by
      have a1:δ-γ≠0:=by grind
      have a2:γ-δ≠0:=by grind
      grind
     rw [e];exact this
   refine ⟨_,key.1,key.2, ?_⟩
   have a1:δ-γ≠0:=by grind
   generalize hk:(0-γ)/(δ-γ)=k
   have hk':k*(δ-γ)= -γ:=by rw [←hk];grind
   refine Prod.ext ?_ ?_
   ·simp only [lin]
    have:a.1+(b.1-a.1)*γ+(a.1+(b.1-a.1)*δ-(a.1+(b.1-a.1)*γ))*k=a.1+(b.1-a.1)*(γ+k*(δ-γ)):=by grind
    rw [this,hk'];grind
   ·simp only [lin]
    have:a.2+(b.2-a.2)*γ+(a.2+(b.2-a.2)*δ-(a.2+(b.2-a.2)*γ))*k=a.2+(b.2-a.2)*(γ+k*(δ-γ)):=by grind
    rw [this,hk'];grind
  ·have ht:t=0:=by
    rw [h1] at hz
    have:t*orQ a b d=0:=by grind
    rcases Rat.mul_eq_zero.1 this with h|h
    ·exact h
    ·exact absurd h h2
   subst ht
   rw [lin_zero] at he
   exact .inl ⟨s,s0,s1,he⟩
 ·by_cases h2:orQ a b d=0
  ·have ht:1-t=0:=by
    rw [h2] at hz
    have:(1-t)*orQ a b c=0:=by grind
    rcases Rat.mul_eq_zero.1 this with h|h
    ·exact h
    ·exact absurd h h1
   have ht:t=1:=by grind
   subst ht
   rw [lin_one] at he
   exact .inr (.inl ⟨s,s0,s1,he⟩)
  ·exfalso
   have hpos:0<orQ a b c*orQ a b d:=by
    by_cases h:orQ a b c*orQ a b d=0
    ·rcases Rat.mul_eq_zero.1 h with h|h
     ·exact absurd h h1
     ·exact absurd h h2
    ·grind
   have e1:(1-t)*(orQ a b c*orQ a b c)+t*(orQ a b c*orQ a b d)=0:=by
    have:(1-t)*(orQ a b c*orQ a b c)+t*(orQ a b c*orQ a b d)=orQ a b c*((1-t)*orQ a b c+t*orQ a b d):=by grind
    rw [this,hz];grind
   have hsq:0<orQ a b c*orQ a b c:=by
    have:=sq_pos (x:=orQ a b c) (y:=0) (fun h=>h1 h.1);grind
   generalize orQ a b c*orQ a b c=P at*
   generalize orQ a b c*orQ a b d=R at*
   have n1:=Rat.mul_nonneg t0 (show 0≤R by grind)
   have n2:=Rat.mul_nonneg (show 0≤1-t by grind) (show 0≤P by grind)
   by_cases et:t=0
   ·subst et;grind
   ·have:=Rat.mul_pos (show 0<t by grind) hpos
    grind
theorem rm_cut{a b c d:P2}(hab:a≠b)(hcd:c≠d):rmB a b c d=true↔Cut a b c d:=by
 unfold rmB
 simp only [Bool.or_eq_true,Bool.and_eq_true,decide_eq_true_eq]
 rw [be_on hab,be_on hab,be_on hcd,be_on hcd]
 have z0: ∀p q:P2,lin p q 0=p:=fun p q=>lin_zero p q
 have z1: ∀p q:P2,lin p q 1=q:=fun p q=>lin_one p q
 have u0:(0:Rat)≤0:=by grind
 have u1:(0:Rat)≤1:=by grind
 have u2:(1:Rat)≤1:=by grind
 constructor
 ·rintro ((((⟨t,t0,t1,h⟩|⟨t,t0,t1,h⟩)|⟨t,t0,t1,h⟩)|⟨t,t0,t1,h⟩)|⟨h1,h2⟩)
  ·exact ⟨t,0,t0,t1,u0,u1,by rw [z0];exact h⟩
  ·exact ⟨t,1,t0,t1,u1,u2,by rw [z1];exact h⟩
  ·exact ⟨0,t,u0,u1,t0,t1,by rw [z0];exact h.symm⟩
  ·exact ⟨1,t,u1,u2,t0,t1,by rw [z1];exact h.symm⟩
  ·unfold orI at h1 h2
   exact proper_cut (orI_neg2.1 h1) (orI_neg2.1 h2)
 ·intro h
  by_cases h1:orQ a b c*orQ a b d<0
  ·by_cases h2:orQ c d a*orQ c d b<0
   ·right
    unfold orI
    exact ⟨orI_neg2.2 h1,orI_neg2.2 h2⟩
   ·rcases cut_ends hcd hab h.symm h2 with k|k|k
    ·exact .inl (.inl (.inr k))
    ·exact .inl (.inr k)
    ·exact .inl (.inl (.inl (.inl k)))
  ·rcases cut_ends hab hcd h h1 with k|k|k
   ·exact .inl (.inl (.inl (.inl k)))
   ·exact .inl (.inl (.inl (.inr k)))
   ·exact .inl (.inl (.inr k))
theorem ordP_lt{a b:P2}(h:a≠b):leP (ordP a b).1 (ordP a b).2∧(ordP a b).1≠(ordP a b).2:=by
 unfold ordP
 by_cases hc:0<cmP a b
 ·rw [if_pos hc]
  refine ⟨leP_not (p:=a) (q:=b) fun h1=> ?_,fun e=>h e.symm⟩
  have:=cmP_le.2 h1;omega
 ·rw [if_neg hc]
  exact ⟨cmP_le.1 (show cmP a b≤0 by omega),h⟩
theorem leP_anti{p q:P2}(h:leP p q)(k:leP q p):p=q:=by
 unfold leP at*
 exact Prod.ext (by grind) (by grind)
theorem ordP_of{a b:P2}(h:leP a b):ordP a b=(a,b):=by
 unfold ordP;rw [if_neg (by have:=cmP_le.2 h;omega)]
theorem ordP_ge{a b:P2}(h:leP b a)(hn:a≠b):ordP a b=(b,a):=by
 unfold ordP
 rw [if_pos]
 by_cases hc:0<cmP a b
 ·exact hc
 ·exact absurd (leP_anti (cmP_le.1 (by omega)) h) hn
theorem ordP_swap{a b:P2}(h:a≠b):ordP b a=ordP a b:=by
 by_cases hl:leP a b
 ·rw [ordP_of hl,ordP_ge hl (fun e=>h e.symm)]
 ·rw [ordP_ge (leP_not hl) h,ordP_of (leP_not hl)]
theorem le_lin0{a b:P2}(h:leP a b)(hn:a≠b){k:Rat}:leP a (lin a b k)↔0≤k:=by
 unfold leP at*
 simp only [lin]
 rcases h with h|⟨h1,h2⟩
 ·have hp:0<b.1-a.1:=by grind
  constructor
  ·rintro (h3|⟨h3,h4⟩)
   ·by_cases hk:0≤k
    ·exact hk
    ·have:=Rat.mul_pos hp (show 0< -k by grind);grind
   ·have:(b.1-a.1)*k=0:=by grind
    rcases Rat.mul_eq_zero.1 this with e|e<;>grind
  ·intro hk
   by_cases e:k=0
   ·subst e;right;grind
   ·left
    have:=Rat.mul_pos hp (show 0<k by grind);grind
 ·have h3:a.2<b.2:=by
   by_cases e:a.2=b.2
   ·exact absurd (Prod.ext h1 e) hn
   ·grind
  have hp:0<b.2-a.2:=by grind
  have hz:b.1-a.1=0:=by grind
  rw [hz]
  constructor
  ·rintro (h3|⟨h3,h4⟩)
   ·grind
   ·by_cases hk:0≤k
    ·exact hk
    ·have:=Rat.mul_pos hp (show 0< -k by grind);grind
  ·intro hk
   have:=Rat.mul_nonneg (show 0≤b.2-a.2 by grind) hk
   right;grind
theorem le_lin1{a b:P2}(h:leP a b)(hn:a≠b){k:Rat}:leP (lin a b k) b↔k≤1:=by
 unfold leP at*
 simp only [lin]
 rcases h with h|⟨h1,h2⟩
 ·have hp:0<b.1-a.1:=by grind
  constructor
  ·rintro (h3|⟨h3,h4⟩)
   ·by_cases hk:k≤1
    ·exact hk
    ·have:=Rat.mul_pos hp (show 0<k-1 by grind);grind
   ·have:(b.1-a.1)*(k-1)=0:=by grind
    rcases Rat.mul_eq_zero.1 this with e|e<;>grind
  ·intro hk
   by_cases e:k=1
   ·subst e;right;grind
   ·left
    have:=Rat.mul_pos hp (show 0<1-k by grind);grind
 ·have h3:a.2<b.2:=by
   by_cases e:a.2=b.2
   ·exact absurd (Prod.ext h1 e) hn
   ·grind
  have hp:0<b.2-a.2:=by grind
  have hz:b.1-a.1=0:=by grind
  rw [hz]
  constructor
  ·rintro (h3|⟨h3,h4⟩)
   ·grind
   ·by_cases hk:k≤1
    ·exact hk
    ·have:=Rat.mul_pos hp (show 0<k-1 by grind);grind
  ·intro hk
   have:=Rat.mul_nonneg (show 0≤b.2-a.2 by grind) (show 0≤1-k by grind)
   right;grind
theorem unB_sym(t:Rat):unB (1-t)=unB t:=by
 rw [Bool.eq_iff_iff,unB_iff,unB_iff]
 constructor<;>rintro ⟨h1,h2⟩<;>constructor<;>grind
theorem mtQ_swap1{a b c d:P2}(h:a≠b):mtQ b a c d=mtQ a b c d:=by
 have e1:crQ (su a b) (su d c)= -crQ (su b a) (su d c):=by simp only [crQ,su];grind
 unfold mtQ
 rw [ordP_swap h]
 by_cases h0:crQ (su b a) (su d c)=0
 ·rw [if_pos (by rw [e1,h0];grind),if_pos h0]
  have e2:crQ (su a b) (su c b)=0↔crQ (su b a) (su c a)=0:=by
   simp only [crQ,su];constructor<;>intro h<;>grind
  by_cases h2:crQ (su b a) (su c a)=0
  ·rw [if_pos (e2.2 h2),if_pos h2]
  ·rw [if_neg (fun h=>h2 (e2.1 h)),if_neg h2]
 ·rw [if_neg (by rw [e1];grind),if_neg h0]
  have k1:crQ (su c b) (su d c)/crQ (su a b) (su d c)=1-crQ (su c a) (su d c)/crQ (su b a) (su d c):=by
   have:crQ (su c b) (su d c)=crQ (su c a) (su d c)-crQ (su b a) (su d c):=by simp only [crQ,su];grind
   rw [this,e1]
   generalize crQ (su b a) (su d c)=D at*
   generalize crQ (su c a) (su d c)=N
   have: -D≠0:=by grind
   grind
  have k2:crQ (su c b) (su a b)/crQ (su a b) (su d c)=crQ (su c a) (su b a)/crQ (su b a) (su d c):=by
   have:crQ (su c b) (su a b)= -crQ (su c a) (su b a):=by simp only [crQ,su];grind
   rw [this,e1]
   generalize crQ (su b a) (su d c)=D at*
   generalize crQ (su c a) (su b a)=N
   have: -D≠0:=by grind
   grind
  rw [k1,k2,unB_sym]
  have e3: ∀k:Rat,lin b a (1-k)=lin a b k:=fun k=>by
   rw [lin_swap];congr 1;grind
  rw [e3]
theorem mtQ_swap2{a b c d:P2}(h:c≠d):mtQ a b d c=mtQ a b c d:=by
 have e1:crQ (su b a) (su c d)= -crQ (su b a) (su d c):=by simp only [crQ,su];grind
 unfold mtQ
 rw [ordP_swap h]
 by_cases h0:crQ (su b a) (su d c)=0
 ·rw [if_pos (by rw [e1,h0];grind),if_pos h0]
  have e2:crQ (su b a) (su d a)=0↔crQ (su b a) (su c a)=0:=by
   have:crQ (su b a) (su d a)=crQ (su b a) (su c a)+crQ (su b a) (su d c):=by simp only [crQ,su];grind
   rw [this,h0];constructor<;>intro h<;>grind
  by_cases h2:crQ (su b a) (su c a)=0
  ·rw [if_pos (e2.2 h2),if_pos h2]
  ·rw [if_neg (fun h=>h2 (e2.1 h)),if_neg h2]
 ·rw [if_neg (by rw [e1];grind),if_neg h0]
  have k1:crQ (su d a) (su c d)/crQ (su b a) (su c d)=crQ (su c a) (su d c)/crQ (su b a) (su d c):=by
   have:crQ (su d a) (su c d)= -crQ (su c a) (su d c):=by simp only [crQ,su];grind
   rw [this,e1]
   generalize crQ (su b a) (su d c)=D at*
   generalize crQ (su c a) (su d c)=N
   have: -D≠0:=by grind
   grind
  have k2:crQ (su d a) (su b a)/crQ (su b a) (su c d)=1-crQ (su c a) (su b a)/crQ (su b a) (su d c):=by
   have:crQ (su d a) (su b a)=crQ (su c a) (su b a)-crQ (su b a) (su d c):=by simp only [crQ,su];grind
   rw [this,e1]
   generalize crQ (su b a) (su d c)=D at*
   generalize crQ (su c a) (su b a)=N
   have: -D≠0:=by grind
   grind
  rw [k1,k2,unB_sym]
def bwB(a b p:P2):Bool:=decide (cmP a p≤0)&&decide (cmP p b≤0)
def fm0(a b c d:P2):Option (P2×P2):=
 if crQ (su b a) (su d c)=0 then
  (if orI a b c≠0 then none
  else if 0<cmP (gtrP a c) (lsrP b d) then none else some (gtrP a c,lsrP b d))
 else if bwB a b (lin a b (crQ (su c a) (su d c)/crQ (su b a) (su d c)))&&bwB c d (lin a b (crQ (su c a) (su d c)/crQ (su b a) (su d c))) then
  some (lin a b (crQ (su c a) (su d c)/crQ (su b a) (su d c)),lin a b (crQ (su c a) (su d c)/crQ (su b a) (su d c)))
 else none
theorem bwB_iff{a b p:P2}:bwB a b p=true↔leP a p∧leP p b:=by
 unfold bwB;rw [Bool.and_eq_true,decide_eq_true_eq,decide_eq_true_eq,cmP_le,cmP_le]
theorem bwB_lin{a b:P2}(h:leP a b)(hn:a≠b)(k:Rat):bwB a b (lin a b k)=unB k:=by
 rw [Bool.eq_iff_iff,bwB_iff,unB_iff,le_lin0 h hn,le_lin1 h hn]
theorem lin_cross{a b c d:P2}(h0:crQ (su b a) (su d c)≠0):lin a b (crQ (su c a) (su d c)/crQ (su b a) (su d c))=lin c d (crQ (su c a) (su b a)/crQ (su b a) (su d c)):=by
 generalize hk:crQ (su c a) (su d c)/crQ (su b a) (su d c)=k
 generalize hm:crQ (su c a) (su b a)/crQ (su b a) (su d c)=m
 have k':k*crQ (su b a) (su d c)=crQ (su c a) (su d c):=by rw [←hk];grind
 have m':m*crQ (su b a) (su d c)=crQ (su c a) (su b a):=by rw [←hm];grind
 have hD:crQ (su b a) (su d c)=(b.1-a.1)*(d.2-c.2)-(b.2-a.2)*(d.1-c.1):=rfl
 have hK:crQ (su c a) (su d c)=(c.1-a.1)*(d.2-c.2)-(c.2-a.2)*(d.1-c.1):=rfl
 have hM:crQ (su c a) (su b a)=(c.1-a.1)*(b.2-a.2)-(c.2-a.2)*(b.1-a.1):=rfl
 rw [hK] at k'
 rw [hM] at m'
 generalize crQ (su b a) (su d c)=D at*
 refine Prod.ext ?_ ?_
 ·simp only [lin]
  have:(a.1+(b.1-a.1)*k)*D=(c.1+(d.1-c.1)*m)*D:=by
   have l1:(a.1+(b.1-a.1)*k)*D=a.1*D+(b.1-a.1)*(k*D):=by grind
   have l2:(c.1+(d.1-c.1)*m)*D=c.1*D+(d.1-c.1)*(m*D):=by grind
   rw [l1,l2,k',m',hD];grind
  grind
 ·simp only [lin]
  have:(a.2+(b.2-a.2)*k)*D=(c.2+(d.2-c.2)*m)*D:=by
   have l1:(a.2+(b.2-a.2)*k)*D=a.2*D+(b.2-a.2)*(k*D):=by grind
   have l2:(c.2+(d.2-c.2)*m)*D=c.2*D+(d.2-c.2)*(m*D):=by grind
   rw [l1,l2,k',m',hD];grind
  grind
theorem fm0_mt{a b c d:P2}(h1:leP a b)(n1:a≠b)(h2:leP c d)(n2:c≠d):fm0 a b c d=mtQ a b c d:=by
 unfold fm0 mtQ
 rw [ordP_of h1,ordP_of h2]
 by_cases h0:crQ (su b a) (su d c)=0
 ·rw [if_pos h0,if_pos h0]
  have e:orI a b c=0↔crQ (su b a) (su c a)=0:=by rw [orI_zero];rfl
  by_cases hx:crQ (su b a) (su c a)=0
  ·rw [if_neg (fun h=>h (e.2 hx)),if_pos hx]
  ·rw [if_pos (fun h=>hx (e.1 h)),if_neg hx]
 ·rw [if_neg h0,if_neg h0]
  have e2:bwB c d (lin a b (crQ (su c a) (su d c)/crQ (su b a) (su d c)))=unB (crQ (su c a) (su b a)/crQ (su b a) (su d c)):=by
   rw [lin_cross h0,bwB_lin h2 n2]
  rw [bwB_lin h1 n1,e2]
def fmQ(a b c d:P2):Option (P2×P2):=fm0 (ordP a b).1 (ordP a b).2 (ordP c d).1 (ordP c d).2
theorem fmQ_mt{a b c d:P2}(hab:a≠b)(hcd:c≠d):fmQ a b c d=mtQ a b c d:=by
 unfold fmQ
 have k1:=ordP_lt hab
 have k2:=ordP_lt hcd
 rw [fm0_mt k1.1 k1.2 k2.1 k2.2]
 have m1: ∀x y:P2,mtQ (ordP a b).1 (ordP a b).2 x y=mtQ a b x y:=fun x y=>by
  unfold ordP
  split
  ·exact mtQ_swap1 hab
  ·rfl
 have m2: ∀x y:P2,mtQ x y (ordP c d).1 (ordP c d).2=mtQ x y c d:=fun x y=>by
  unfold ordP
  split
  ·exact mtQ_swap2 hcd
  ·rfl
 rw [m1,m2]
theorem mtQ_some{a b c d:P2}(hab:a≠b)(hcd:c≠d)(h:(mtQ a b c d).isSome=true):Cut a b c d:=by
 by_cases h0:crQ (su b a) (su d c)=0
 ·have k1:=ordP_lt hab
  have k2:=ordP_lt hcd
  have ord_sub: ∀{x y p:P2},x≠y→(∃t:Rat,0≤t∧t≤1∧lin (ordP x y).1 (ordP x y).2 t=p)→ ∃t:Rat,0≤t∧t≤1∧lin x y t=p:=by
   intro x y p hn ⟨t,t0,t1,e⟩
   unfold ordP at e
   split at e
   ·exact ⟨1-t,by grind,by grind,by rw [←e];exact (lin_swap x y t).symm⟩
   ·exact ⟨t,t0,t1,e⟩
  have ord_or: ∀{x y p:P2},orQ x y p=0→orQ (ordP x y).1 (ordP x y).2 p=0:=by
   intro x y p hz
   unfold ordP
   split
   ·show orQ y x p=0
    rw [orQ_rev,hz];grind
   ·exact hz
  unfold mtQ at h
  rw [if_pos h0] at h
  by_cases hx:crQ (su b a) (su c a)=0
  ·rw [if_pos hx] at h
   by_cases hc:0<cmP (gtrP (ordP a b).1 (ordP c d).1) (lsrP (ordP a b).2 (ordP c d).2)
   ·rw [if_pos hc] at h;exact absurd h (by simp)
   have hle:=cmP_le.1 (show cmP (gtrP (ordP a b).1 (ordP c d).1) (lsrP (ordP a b).2 (ordP c d).2)≤0 by omega)
   have oc:orQ a b c=0:=hx
   have od:orQ a b d=0:=by
    have:orQ a b d=crQ (su b a) (su c a)+crQ (su b a) (su d c):=by simp only [crQ,su,orQ];grind
    rw [this,hx,h0];grind
   --the ends of a b on the line of c d
   obtain ⟨γ,hγ⟩:=onLine hab oc
   obtain ⟨δ,hδ⟩:=onLine hab od
   have oa:orQ c d a=0:=by rw [hγ,hδ];simp only [orQ,lin];grind
   have ob:orQ c d b=0:=by rw [hγ,hδ];simp only [orQ,lin];grind
   have gl:leP (ordP a b).1 (gtrP (ordP a b).1 (ordP c d).1)∧leP (ordP c d).1 (gtrP (ordP a b).1 (ordP c d).1):=by
    unfold gtrP
    split
    ·rename_i hlt;exact ⟨cmP_le.1 (by omega),leP_refl _⟩
    ·rename_i hlt
     refine ⟨leP_refl _, ?_⟩
     by_cases hz:cmP (ordP a b).1 (ordP c d).1≤0
     ·have:=cmP_zero.1 (show cmP (ordP a b).1 (ordP c d).1=0 by omega)
      rw [this];exact leP_refl _
     ·exact leP_not fun h=>hz (cmP_le.2 h)
   have ll:leP (lsrP (ordP a b).2 (ordP c d).2) (ordP a b).2∧leP (lsrP (ordP a b).2 (ordP c d).2) (ordP c d).2:=by
    unfold lsrP
    split
    ·rename_i hlt;exact ⟨leP_refl _,cmP_le.1 (by omega)⟩
    ·rename_i hlt
     refine ⟨?_,leP_refl _⟩
     by_cases hz:cmP (ordP a b).2 (ordP c d).2≤0
     ·have:=cmP_zero.1 (show cmP (ordP a b).2 (ordP c d).2=0 by omega)
      rw [this];exact leP_refl _
     ·exact leP_not fun h=>hz (cmP_le.2 h)
   have e1:orQ a b (gtrP (ordP a b).1 (ordP c d).1)=0∧orQ c d (gtrP (ordP a b).1 (ordP c d).1)=0:=by
    have za:orQ a b a=0∧orQ a b b=0:=by simp only [orQ];constructor<;>grind
    have zc:orQ c d c=0∧orQ c d d=0:=by simp only [orQ];constructor<;>grind
    have p1:=ordP_q (P:=fun p=>orQ a b p=0∧orQ c d p=0) (a:=a) (b:=b) ⟨za.1,oa⟩ ⟨za.2,ob⟩
    have p2:=ordP_q (P:=fun p=>orQ a b p=0∧orQ c d p=0) (a:=c) (b:=d) ⟨oc,zc.1⟩ ⟨od,zc.2⟩
    exact gtrP_q (P:=fun p=>orQ a b p=0∧orQ c d p=0) p1.1 p2.1
   generalize gtrP (ordP a b).1 (ordP c d).1=g at*
   obtain ⟨s,s0,s1,es⟩:=ord_sub hab (bet_line k1.2 (ord_or e1.1) gl.1 (leP_trans hle ll.1))
   obtain ⟨t,t0,t1,et⟩:=ord_sub hcd (bet_line k2.2 (ord_or e1.2) gl.2 (leP_trans hle ll.2))
   exact ⟨s,t,s0,s1,t0,t1,by rw [es,et]⟩
  ·rw [if_neg hx] at h;exact absurd h (by simp)
 ·have e:=lin_cross h0
  unfold mtQ at h
  rw [if_neg h0] at h
  split at h
  ·rename_i hu
   rw [Bool.and_eq_true,unB_iff,unB_iff] at hu
   exact ⟨_,_,hu.1.1,hu.1.2,hu.2.1,hu.2.2,e⟩
  ·exact absurd h (by simp)
theorem mt_cut{a b c d:P2}(hab:a≠b)(hcd:c≠d):mtB a b c d=true↔Cut a b c d:=by
 constructor
 ·intro h
  unfold mtB at h
  rw [Bool.and_eq_true] at h
  exact mtQ_some hab hcd h.2
 ·intro h
  by_cases hm:mtB a b c d=true
  ·exact hm
  ·exact absurd (mtB_false (Bool.not_eq_true _▸hm) hab hcd) (cut_disj.1 h)
theorem rm_mt{a b c d:P2}(hab:a≠b)(hcd:c≠d):rmB a b c d=mtB a b c d:=by
 rw [Bool.eq_iff_iff,rm_cut hab hcd,mt_cut hab hcd]
theorem stB_fl{l:List P2}(h0:0<l.length):(List.range l.length).any (stB l)=decide (0≤fstI (flB l) (List.range l.length)):=by
 rw [fstI_any]
 rw [Bool.eq_iff_iff,List.any_eq_true,List.any_eq_true]
 have e1: ∀i,flB l ((i+1)%l.length)=stB l i:=fun i=>by
  unfold flB stB
  have e1:ix l ((i+1)%l.length+l.length-1)=ix l i:=by
   have:(i+1)%l.length+l.length-1=(i+1)%l.length+(l.length-1):=by omega
   rw [this,ix_add_mod,show i+1+(l.length-1)=i+l.length by omega,ix_per]
  have e2:ix l ((i+1)%l.length)=ix l (i+1):=by have:=ix_add_mod (l:=l) (i+1) 0;simpa using this
  have e3:ix l ((i+1)%l.length+1)=ix l (i+2):=ix_add_mod (l:=l) (i+1) 1
  rw [e1,e2,e3]
 constructor
 ·rintro ⟨i,hi,h⟩
  exact ⟨(i+1)%l.length,by simpa using Nat.mod_lt _ h0,by rw [e1];exact h⟩
 ·rintro ⟨i,hi,h⟩
  have hi':i<l.length:=by simpa using hi
  refine ⟨(i+(l.length-1))%l.length,by simpa using Nat.mod_lt _ h0, ?_⟩
  rw [←e1]
  have:((i+(l.length-1))%l.length+1)%l.length=i:=by
   rw [Nat.mod_add_mod,show i+(l.length-1)+1=i+l.length by omega,Nat.add_mod_right,Nat.mod_eq_of_lt hi']
  rw [this];exact h
theorem any_congr'{α:Type}{l:List α}{f g:α→Bool}(h: ∀x∈l,f x=g x):l.any f=l.any g:=by
 rw [Bool.eq_iff_iff,List.any_eq_true,List.any_eq_true]
 exact ⟨fun ⟨x,h1,h2⟩=>⟨x,h1,by rw [←h x h1];exact h2⟩,fun ⟨x,h1,h2⟩=>⟨x,h1,by rw [h x h1];exact h2⟩⟩
def rxB(l:List P2)(i k:Nat):Bool:=decide (i+2≤k)&&(!decide ((k+1)%l.length=i)&&rmB (ix l i) (ix l (i+1)) (ix l k) (ix l (k+1)))
def rcrB(l:List P2):Bool:=(List.range l.length).any fun i=>(List.range l.length).any fun k=>rxB l i k
theorem stB_ne{l:List P2}(h:(List.range l.length).any (stB l)=false){i:Nat}(hi:i<l.length):ix l i≠ix l (i+1):=by
 have:=List.any_eq_false.1 h i (by simpa using hi)
 unfold stB at this
 rw [decide_eq_true_eq,orI_zero] at this
 exact (orQ_ne this).1
theorem rcr_cr{l:List P2}(h:(List.range l.length).any (stB l)=false):rcrB l=crB l:=by
 unfold rcrB crB
 refine any_congr' fun i hi=>any_congr' fun k hk=> ?_
 have hi':i<l.length:=by simpa using hi
 have hk':k<l.length:=by simpa using hk
 unfold rxB xB
 rw [rm_mt (stB_ne h hi') (stB_ne h hk')]
 by_cases h2:i+2≤k
 ·have:decide ((k+1)%l.length=i)=(decide (i=0)&&decide (k=l.length-1)):=by
   rw [Bool.eq_iff_iff,Bool.and_eq_true,decide_eq_true_eq,decide_eq_true_eq,decide_eq_true_eq]
   by_cases hl:k+1<l.length
   ·rw [Nat.mod_eq_of_lt hl];omega
   ·have:k+1=l.length:=by omega
    rw [this,Nat.mod_self];omega
  rw [this];rfl
 ·rw [decide_eq_false h2];rfl
theorem sgnI_half{l:List P2}(h:tot crQ l≠0):(sgnI (tot crQ l/2)≤0)↔(sgnI (tot crQ l/2)<0):=by
 have hz:sgnI (tot crQ l/2)≠0:=fun e=>by
  rw [sgnI_zero] at e;apply h;grind
 omega
theorem lsN_kf(l:List P2): ∀i,lsN l i=kf l (i+1)
 |0=>by
  unfold lsN kf kf
  split
  ·rfl
  ·rfl
 |i+1=>by
  rw [lsN,kf,lsN_kf l i]
def frE(l:List P2):Int:=
 if l.length<3∨64<l.length then 4
 else if (List.range l.length).any (stB l)=true then 12
 else if rcrB l=true then 13
 else if sgnI (tot crQ l/2)<0∨(lsN l (l.length-1):Int)≠0 then 8
 else 0
theorem frE_rg(l:List P2):frE l=rgE l:=by
 unfold frE rgE
 by_cases h1:l.length<3∨64<l.length
 ·rw [if_pos h1,if_pos h1]
 rw [if_neg h1,if_neg h1]
 have e1:=stB_fl (l:=l) (by omega)
 by_cases h2:(List.range l.length).any (stB l)=true
 ·have:0≤fstI (flB l) (List.range l.length):=by rw [h2] at e1;exact of_decide_eq_true e1.symm
  rw [if_pos h2,if_pos this]
 have h2':(List.range l.length).any (stB l)=false:=by simpa using h2
 have n2: ¬0≤fstI (flB l) (List.range l.length):=by rw [h2'] at e1;exact of_decide_eq_false e1.symm
 rw [if_neg h2,if_neg n2,rcr_cr h2']
 by_cases h3:crB l=true
 ·rw [if_pos h3,if_pos h3]
 rw [if_neg h3,if_neg h3]
 have hs:RgS l:=⟨by omega,fun i hi=>flat_none n2 hi,by simpa using h3⟩
 have ha:tot crQ l≠0:=hs.simp.area_ne
 have e2:lsN l (l.length-1)=kf l l.length:=by rw [lsN_kf,show l.length-1+1=l.length by omega]
 rw [e2]
 have:=sgnI_half ha
 by_cases h4:sgnI (tot crQ l/2)<0∨(kf l l.length:Int)≠0
 ·rw [if_pos h4,if_pos (by omega)]
 ·rw [if_neg h4,if_neg (by omega)]
theorem sdI_in{l:List P2}(h:RgOk l)(p:P2):sdI l p=inV l p:=by
 have hz:=rgE_zero.2 h
 have:(List.range l.length).any (onEd l p)=onB l p:=by
  unfold onB
  rw [Bool.eq_iff_iff,List.any_eq_true,List.any_eq_true]
  constructor
  ·rintro ⟨i,hi,hb⟩
   have hi':i<l.length:=by simpa using hi
   exact ⟨ed l i,ed_mem hi',by unfold onEd at hb;rw [be_bet (h.ne i)] at hb;exact hb⟩
  ·rintro ⟨e,he,hb⟩
   obtain ⟨i,hi,rfl⟩:=mem_ed he
   exact ⟨i,by simpa using hi,by unfold onEd;rw [be_bet (h.ne i)];exact hb⟩
 unfold sdI inV
 rw [this,if_neg (c:=rgE l≠0) (fun hh=>hh hz)]
def prA(ys:List Rat)(k:Nat):List P2:=(List.range k).map fun j=>(ys.getD (2*j) 0,ys.getD (2*j+1) 0)
theorem prA_len(ys:List Rat)(k:Nat):(prA ys k).length=k:=by unfold prA;simp
theorem prA_succ(ys:List Rat)(k:Nat):prA ys (k+1)=prA ys k++ [(ys.getD (2*k) 0,ys.getD (2*k+1) 0)] :=by
 unfold prA;rw [List.range_succ,List.map_append];rfl
def neB(p:P2):Bool:=decide (p.1<p.2)
theorem prA_so{ys:List Rat}{M:Nat}(hyl:ys.length=2*M)(hso:ys.Pairwise (· ≤ ·)): ∀i j,i<j→j<ys.length→ys.getD i 0≤ys.getD j 0:=fun i j hij hj=>by
 rw [List.getD_eq_getElem?_getD,List.getD_eq_getElem?_getD,List.getElem?_eq_getElem hj,List.getElem?_eq_getElem (show i<ys.length by omega)]
 exact List.pairwise_iff_getElem.1 hso i j (by omega) hj hij
theorem prA_filter{ys:List Rat}{M:Nat}(hyl:ys.length=2*M)(hso:ys.Pairwise (· ≤ ·)):(prA ys M).filter neB=prL ys M:=by
 unfold prA prL
 refine List.filter_congr fun p hp=> ?_
 obtain ⟨j,hj,rfl⟩:=List.mem_map.1 hp
 have hj':=List.mem_range.1 hj
 have:=prA_so hyl hso (2*j) (2*j+1) (by omega) (by omega)
 unfold neB
 rw [Bool.eq_iff_iff,Bool.not_eq_true',decide_eq_true_eq,decide_eq_false_iff_not]
 constructor
 ·intro h e;simp only at h e;grind
 ·intro h;simp only at h ⊢;grind
structure Ia (n:Nat) (l:List P2):Prop where
 b: ∀p∈l,BP n p
 n:n<1000000
 len:l.length≤12
 so:l.Pairwise fun p q=>p.1≤q.1
theorem prA_ia{ys:List Rat}{M n:Nat}(hyl:ys.length=2*M)(hml:M≤6)(hso:ys.Pairwise (· ≤ ·))(hb: ∀x∈ys,Bd n x)(hn:n<1000000):Ia n (prA ys M):=by
 have hg: ∀j,j<ys.length→ys.getD j 0∈ys:=fun j hj=>by
  rw [List.getD_eq_getElem?_getD,List.getElem?_eq_getElem hj]
  exact List.getElem_mem hj
 refine ⟨fun p hp=> ?_,hn,by rw [prA_len];omega, ?_⟩
 ·unfold prA at hp
  obtain ⟨j,hj,rfl⟩:=List.mem_map.1 hp
  have:=List.mem_range.1 hj
  exact ⟨hb _ (hg _ (by omega)),hb _ (hg _ (by omega))⟩
 ·unfold prA
  rw [List.pairwise_iff_getElem]
  intro i j hi hj hij
  simp only [List.length_map,List.length_range] at hi hj
  simp only [List.getElem_map,List.getElem_range]
  exact prA_so hyl hso _ _ (by omega) (by omega)
theorem fil_take{l:List P2}{i:Nat}(h:i<l.length):(l.take (i+1)).filter neB=(l.take i).filter neB++(if neB l[i] =true then [l[i]] else []):=by
 rw [List.take_succ_eq_append_getElem h,List.filter_append]
 congr 1
 by_cases hb:neB l[i] =true
 ·rw [if_pos hb];exact List.filter_cons_of_pos hb
 ·rw [if_neg hb];exact List.filter_cons_of_neg hb
theorem Ia.fil{n:Nat}{l:List P2}(h:Ia n l)(i:Nat):(∀p∈(l.take i).filter neB,BP n p)∧((l.take i).filter neB).length≤12:=by
 refine ⟨fun p hp=>h.b p (List.mem_of_mem_take (List.mem_filter.1 hp).1), ?_⟩
 have:=List.length_filter_le neB (l.take i)
 have:=h.len
 rw [List.length_take] at*
 omega
theorem Ia.fil_le{n:Nat}{l:List P2}(h:Ia n l){i:Nat}(hi:i<l.length): ∀p∈(l.take i).filter neB,p.1≤l[i].1:=by
 intro p hp
 obtain ⟨j,hj,rfl⟩:=List.getElem_of_mem (List.mem_filter.1 hp).1
 rw [List.length_take] at hj
 rw [List.getElem_take]
 exact List.pairwise_iff_getElem.1 h.so j i (by omega) hi (by omega)
end Go.Nv
end
