import Derived.Test.YtdjbkccoofcnjaaGreatNvD8
import Derived.Test.YtdjbkccoofcnjaaGreatNvC4
set_option linter.all false
set_option maxRecDepth 100000
section
namespace Go.Nv
open Go.Proofs Nw
theorem sg_ng(x:Int):sg (ng x) x.natAbs=x:=by
 rw [ng_eq];unfold sg;by_cases h:x<0<;>simp [h] <;>omega
theorem zD_of(x:Int):zD x=intD (ng x) (nb x.natAbs):=rfl
theorem nb_size_le(s:ByteArray):(nb (bv s)).size≤s.size:=by
 rw [nb_size];exact nbl_length_le (bvl_lt _)
theorem abs_sg(n:Bool)(s:ByteArray):(nb (sg n (bv s)).natAbs).size≤s.size:=by rw [sg_abs];exact nb_size_le s
theorem rcanon_z(x:Int):Fun Tryz.prog 255 [zD x] [zD x] :=by
 have:=zcanon_c (ng x) (nb x.natAbs)
 rwa [bv_nb,sg_ng] at this
theorem rneg_z(x:Int):Fun Tryz.prog 252 [zD x] [zD (-x)] :=by
 have:=rneg_c (ng x) (nb x.natAbs)
 rwa [bv_nb,sg_ng] at this
theorem rval_z(x:Int)(h:(nb x.natAbs).size≤7):Fun Tryz.prog 256 [zD x] [i64 x] :=by
 have:=rvalue_c (ng x) (nb x.natAbs) h
 rwa [bv_nb,sg_ng] at this
theorem small_z{x:Int}(h:(nb x.natAbs).size≤7): -72057594037927936<x∧x<72057594037927936:=by
 have:=sg_small (n:=ng x) h
 rwa [bv_nb,sg_ng] at this
theorem z_add{x y:Int}(g:ng x=ng y):zD (x+y)=intD (ng x) (nb (x.natAbs+y.natAbs)):=by
 rw [ng_eq,ng_eq,decide_eq_decide] at g
 rw [zD_of,ng_eq,ng_eq,show (decide (x+y<0))=decide (x<0) by rw [decide_eq_decide];omega,show (x+y).natAbs=x.natAbs+y.natAbs by omega]
theorem z_eq0{x y:Int}(g:ng x≠ng y)(g2:cmpN x.natAbs y.natAbs=0):zD (x+y)=intD false (nb 0):=by
 rw [ng_eq,ng_eq,Ne,decide_eq_decide] at g
 have:x+y=0:=by unfold cmpN at g2;repeat' split at g2<;>omega
 rw [this,zD_of,ng_eq];rfl
theorem z_gt{x y:Int}(g:ng x≠ng y)(g3:cmpN x.natAbs y.natAbs>0):y.natAbs<x.natAbs∧zD (x+y)=intD (ng x) (nb (x.natAbs-y.natAbs)):=by
 rw [ng_eq,ng_eq,Ne,decide_eq_decide] at g
 have h:y.natAbs<x.natAbs:=by unfold cmpN at g3;repeat' split at g3<;>omega
 refine ⟨h, ?_⟩
 rw [zD_of,ng_eq,ng_eq,show (decide (x+y<0))=decide (x<0) by rw [decide_eq_decide];omega,show (x+y).natAbs=x.natAbs-y.natAbs by omega]
theorem z_lt{x y:Int}(g:ng x≠ng y)(g2: ¬cmpN x.natAbs y.natAbs=0)(g3: ¬cmpN x.natAbs y.natAbs>0):x.natAbs<y.natAbs∧zD (x+y)=intD (ng y) (nb (y.natAbs-x.natAbs)):=by
 rw [ng_eq,ng_eq,Ne,decide_eq_decide] at g
 have h:x.natAbs<y.natAbs:=by
  unfold cmpN at g2 g3
  split at g2<;>rename_i h1
  ·exact h1
  ·rw [if_neg h1] at g3;split at g2<;>omega
 refine ⟨h, ?_⟩
 rw [zD_of,ng_eq,ng_eq,show (decide (x+y<0))=decide (y<0) by rw [decide_eq_decide];omega,show (x+y).natAbs=y.natAbs-x.natAbs by omega]
theorem radd_c(n m:Bool)(s t:ByteArray)(hs:s.size<400000000000)(ht:t.size<400000000000):Fun Tryz.prog 176 [intD n s,intD m t] [zD (sg n (bv s)+sg m (bv t))] :=by
 have c1:=zcanon_c n s
 have c2:=zcanon_c m t
 have l1:=abs_sg n s
 have l2:=abs_sg m t
 generalize sg n (bv s)=x at*
 generalize sg m (bv t)=y at*
 refine fun_of_go (fun t=>t==2||t==3) mixed tOk Tryz.func176 rfl rfl ?_
 conv=>whnf
 refine callv_data c1 ?_
 conv=>whnf
 refine callv_data c2 ?_
 conv=>whnf
 refine safe_intro (by kernel_rfl) ?_
 conv=>whnf
 refine cond_d (fun h=> ?_) (fun h=> ?_)
 ·conv=>whnf
  refine cond_d (fun h2=> ?_) (fun h2=> ?_)
  ·conv=>whnf
   refine callv_data (rval_z x (by omega)) ?_
   conv=>whnf
   refine callv_data (rval_z y (by omega)) ?_
   conv=>whnf
   have b1:=small_z (x:=x) (by omega)
   have b2:=small_z (x:=y) (by omega)
   refine sd_d (by omega) ?_
   conv=>whnf
   refine callv_data (rof_c (x+y) (by omega)) ?_
   conv=>whnf
   refine safe_intro (by kernel_rfl) ?_
   conv=>whnf
   exact ⟨⟨rfl,rfl,trivial⟩,trivial⟩
  ·conv=>whnf
   refine cond_e (fun g=> ?_) (fun g=> ?_)
   ·conv=>whnf
    refine callv_data (raddMag_n x.natAbs y.natAbs (by omega) (by omega)) ?_
    conv=>whnf
    refine safe_intro (by kernel_rfl) ?_
    conv=>whnf
    rw [z_add g]
    exact ⟨⟨rfl,rfl,trivial⟩,trivial⟩
   ·conv=>whnf
    refine call_data rfl rfl (rcmp_c x.natAbs y.natAbs) ?_
    conv=>whnf
    refine cond_d (fun g2=> ?_) (fun g2=> ?_)
    ·conv=>whnf
     rw [z_eq0 g g2]
     exact ⟨⟨rfl,rfl,trivial⟩,trivial⟩
    ·conv=>whnf
     refine cond_d (fun g3=> ?_) (fun g3=> ?_)
     ·conv=>whnf
      obtain ⟨e1,e2⟩:=z_gt g g3
      refine callv_data (rsubMag_n x.natAbs y.natAbs (by omega) (by omega) (by omega)) ?_
      conv=>whnf
      refine safe_intro (by kernel_rfl) ?_
      conv=>whnf
      rw [e2]
      exact ⟨⟨rfl,rfl,trivial⟩,trivial⟩
     ·conv=>whnf
      obtain ⟨e1,e2⟩:=z_lt g g2 g3
      refine callv_data (rsubMag_n y.natAbs x.natAbs (by omega) (by omega) (by omega)) ?_
      conv=>whnf
      refine safe_intro (by kernel_rfl) ?_
      conv=>whnf
      rw [e2]
      exact ⟨⟨rfl,rfl,trivial⟩,trivial⟩
 ·conv=>whnf
  refine cond_e (fun g=> ?_) (fun g=> ?_)
  ·conv=>whnf
   refine callv_data (raddMag_n x.natAbs y.natAbs (by omega) (by omega)) ?_
   conv=>whnf
   refine safe_intro (by kernel_rfl) ?_
   conv=>whnf
   rw [z_add g]
   exact ⟨⟨rfl,rfl,trivial⟩,trivial⟩
  ·conv=>whnf
   refine call_data rfl rfl (rcmp_c x.natAbs y.natAbs) ?_
   conv=>whnf
   refine cond_d (fun g2=> ?_) (fun g2=> ?_)
   ·conv=>whnf
    rw [z_eq0 g g2]
    exact ⟨⟨rfl,rfl,trivial⟩,trivial⟩
   ·conv=>whnf
    refine cond_d (fun g3=> ?_) (fun g3=> ?_)
    ·conv=>whnf
     obtain ⟨e1,e2⟩:=z_gt g g3
     refine callv_data (rsubMag_n x.natAbs y.natAbs (by omega) (by omega) (by omega)) ?_
     conv=>whnf
     refine safe_intro (by kernel_rfl) ?_
     conv=>whnf
     rw [e2]
     exact ⟨⟨rfl,rfl,trivial⟩,trivial⟩
    ·conv=>whnf
     obtain ⟨e1,e2⟩:=z_lt g g2 g3
     refine callv_data (rsubMag_n y.natAbs x.natAbs (by omega) (by omega) (by omega)) ?_
     conv=>whnf
     refine safe_intro (by kernel_rfl) ?_
     conv=>whnf
     rw [e2]
     exact ⟨⟨rfl,rfl,trivial⟩,trivial⟩
theorem radd_z(x y:Int)(hx:(nb x.natAbs).size<400000000000)(hy:(nb y.natAbs).size<400000000000):Fun Tryz.prog 176 [zD x,zD y] [zD (x+y)] :=by
 have:=radd_c (ng x) (ng y) (nb x.natAbs) (nb y.natAbs) hx hy
 rwa [bv_nb,bv_nb,sg_ng,sg_ng] at this
theorem rsub_z(x y:Int)(hx:(nb x.natAbs).size<400000000000)(hy:(nb y.natAbs).size<400000000000):Fun Tryz.prog 318 [zD x,zD y] [zD (x-y)] :=by
 refine fun_of_go (fun t=>false) mixed tOk Tryz.func318 rfl rfl ?_
 conv=>whnf
 refine callv_data (rneg_z y) ?_
 conv=>whnf
 refine callv_data (radd_z x (-y) hx (by rw [Int.natAbs_neg];exact hy)) ?_
 conv=>whnf
 refine safe_intro (by kernel_rfl) ?_
 conv=>whnf
 rw [←Int.sub_eq_add_neg]
 exact ⟨⟨rfl,rfl,trivial⟩,trivial⟩
theorem zD_mul(x y:Int)(hx:x≠0)(hy:y≠0):zD (x*y)=intD (bz (ng x !=ng y)) (nb (x.natAbs*y.natAbs)):=by
 rw [zD_of,bz_eq,ng_eq,ng_eq,ng_eq,Int.natAbs_mul]
 have e:decide (x*y<0)=(decide (x<0) !=decide (y<0)):=by
  rcases Int.lt_trichotomy x 0 with h|h|h<;>rcases Int.lt_trichotomy y 0 with h'|h'|h'
  ·have:=Int.mul_pos_of_neg_of_neg h h'
   simp [h,h'];omega
  ·omega
  ·have:=Int.mul_neg_of_neg_of_pos h h'
   simp [h,this];omega
  ·omega
  ·omega
  ·omega
  ·have:=Int.mul_neg_of_pos_of_neg h h'
   simp [h',this];omega
  ·omega
  ·have:=Int.mul_pos h h'
   have a1: ¬x<0:=by omega
   have a2: ¬y<0:=by omega
   have a3: ¬x*y<0:=by omega
   simp [a1,a2,a3]
 rw [e]
theorem zD_zero:zD 0=intD false ⟨#[]⟩:=by rw [zD_of,ng_eq];rfl
theorem abs_lt(x:Int):x.natAbs<256^(nb x.natAbs).size:=by
 have:=bvl_lt (nbl x.natAbs)
 rwa [bvl_nbl, ←nb_size] at this
theorem mul_small{x y:Int}(h:(nb x.natAbs).size+(nb y.natAbs).size≤7): -72057594037927936<x*y∧x*y<72057594037927936:=by
 have h1:=Nat.mul_lt_mul'' (abs_lt x) (abs_lt y)
 rw [←Nat.pow_add, ←Int.natAbs_mul] at h1
 have h2:=Nat.pow_le_pow_right (n:=256) (by omega) h
 have h3:(256:Nat)^7=72057594037927936:=rfl
 omega
theorem rmulMag_n(a b:Nat)(ha:(nb a).size<1000000000000)(hb:(nb b).size<1000000000000):Fun Tryz.prog 260 [.v (.string (nb a)),.v (.string (nb b))] [.v (.string (nb (a*b)))] :=by
 have:=rmulMag_c (nb a) (nb b) ha hb
 rwa [bv_nb,bv_nb] at this
theorem rmul_c(n m:Bool)(s t:ByteArray)(hs:s.size<400000000000)(ht:t.size<400000000000):Fun Tryz.prog 177 [intD n s,intD m t] [zD (sg n (bv s)*sg m (bv t))] :=by
 have c1:=zcanon_c n s
 have c2:=zcanon_c m t
 have l1:=abs_sg n s
 have l2:=abs_sg m t
 generalize sg n (bv s)=x at*
 generalize sg m (bv t)=y at*
 refine fun_of_go (fun t=>t==2||t==3) mixed tOk Tryz.func177 rfl rfl ?_
 conv=>whnf
 refine callv_data c1 ?_
 conv=>whnf
 refine callv_data c2 ?_
 conv=>whnf
 refine safe_intro (by kernel_rfl) ?_
 conv=>whnf
 refine cond_b (fun h=> ?_) (fun h=> ?_)
 ·rw [nb_ne,decide_eq_true_eq] at h
  have h0:x=0:=by omega
  subst h0
  conv=>whnf
  rw [Int.zero_mul,zD_zero]
  exact ⟨⟨rfl,rfl,trivial⟩,trivial⟩
 ·rw [nb_ne,decide_eq_false_iff_not] at h
  conv=>whnf
  refine cond_b (fun h2=> ?_) (fun h2=> ?_)
  ·rw [nb_ne,decide_eq_true_eq] at h2
   have h0:y=0:=by omega
   subst h0
   conv=>whnf
   rw [Int.mul_zero,zD_zero]
   exact ⟨⟨rfl,rfl,trivial⟩,trivial⟩
  ·rw [nb_ne,decide_eq_false_iff_not] at h2
   conv=>whnf
   refine sd_d (by omega) ?_
   conv=>whnf
   refine cond_d (fun h3=> ?_) (fun h3=> ?_)
   ·conv=>whnf
    refine callv_data (rval_z x (by omega)) ?_
    conv=>whnf
    refine callv_data (rval_z y (by omega)) ?_
    conv=>whnf
    have hp:=mul_small (x:=x) (y:=y) (by omega)
    refine sd_d (by omega) ?_
    conv=>whnf
    refine callv_data (rof_c (x*y) (by omega)) ?_
    conv=>whnf
    refine safe_intro (by kernel_rfl) ?_
    conv=>whnf
    exact ⟨⟨rfl,rfl,trivial⟩,trivial⟩
   ·conv=>whnf
    refine callv_data (rmulMag_n x.natAbs y.natAbs (by omega) (by omega)) ?_
    conv=>whnf
    refine safe_intro (by kernel_rfl) ?_
    conv=>whnf
    rw [zD_mul x y (by omega) (by omega)]
    exact ⟨⟨rfl,rfl,trivial⟩,trivial⟩
theorem rcmpI_c(n m:Bool)(s t:ByteArray):Fun Tryz.prog 233 [intD n s,intD m t] [i64 (cmpZ (sg n (bv s)) (sg m (bv t)))] :=by
 have c1:=zcanon_c n s
 have c2:=zcanon_c m t
 generalize sg n (bv s)=x at*
 generalize sg m (bv t)=y at*
 refine fun_of_go (fun t=>t==2||t==3) mixed tOk Tryz.func233 rfl rfl ?_
 conv=>whnf
 refine callv_data c1 ?_
 conv=>whnf
 refine callv_data c2 ?_
 conv=>whnf
 refine safe_intro (by kernel_rfl) ?_
 conv=>whnf
 rw [show cmpZ x y=(if ng x≠ng y then (if ng x then-1 else 1) else if ng x then cmpN y.natAbs x.natAbs else cmpN x.natAbs y.natAbs) by
  rw [ng_eq,ng_eq];unfold cmpZ cmpN;simp only [Ne,decide_eq_decide,decide_eq_true_eq];repeat' split
  all_goals omega]
 refine cond_ne (fun h=> ?_) (fun h=> ?_)
 ·conv=>whnf
  rw [if_pos h]
  refine cond_intro (fun h2=> ?_) (fun h2=> ?_)
  ·conv=>whnf
   refine ⟨?_,trivial⟩
   conv=>whnf
   rw [if_pos h2]
  ·conv=>whnf
   refine ⟨?_,trivial⟩
   conv=>whnf
   rw [if_neg (by rw [h2];simp)]
 ·conv=>whnf
  rw [if_neg (fun hh=>hh h)]
  refine cond_intro (fun h2=> ?_) (fun h2=> ?_)
  ·conv=>whnf
   refine call_data rfl rfl (rcmp_c y.natAbs x.natAbs) ?_
   conv=>whnf
   refine ⟨?_,trivial⟩
   conv=>whnf
   rw [if_pos h2]
  ·conv=>whnf
   refine call_data rfl rfl (rcmp_c x.natAbs y.natAbs) ?_
   conv=>whnf
   refine ⟨?_,trivial⟩
   conv=>whnf
   rw [if_neg (by rw [h2];simp)]
theorem rsmall_n(a:Nat)(h:(nb a).size≤7):Fun Tryz.prog 317 [.v (.string (nb a))] [i64 (a:Nat)] :=by
 have:=rsmall_c (nb a) h
 rwa [bv_nb] at this
theorem rdivMag_n(a b:Nat)(ha:(nb a).size<1000000000000)(hb:(nb b).size<400000000000)(h0:b≠0):Fun Tryz.prog 316 [.v (.string (nb a)),.v (.string (nb b))] [.v (.string (nb (a/b))),.v (.string (nb (a%b)))] :=by
 have:=rdivMag_c (nb a) b ha hb h0
 rwa [bv_nb] at this
theorem zD_nat(a:Nat):zD (a:Int)=intD false (nb a):=by
 rw [zD_of,ng_eq,show decide ((a:Int)<0)=false by simp];rfl
theorem small_n{a:Nat}(h:(nb a).size≤7):a<72057594037927936:=by
 have:=small_z (x:=(a:Int)) (by simpa using h)
 omega
theorem rof_n(a:Nat)(h:a≤9223372036854775807):Fun Tryz.prog 201 [i64 (a:Int)] [intD false (nb a)] :=by
 have:=rof_c (a:Int) (by omega)
 rwa [zD_nat] at this
theorem nb_mono{a b:Nat}(h:a≤b):(nb a).size≤(nb b).size:=by
 rcases Nat.lt_or_ge (nb b).size (nb a).size with h1|h1
 ·have:=nb_lt h1;omega
 ·exact h1
theorem ediv_abs(x:Int)(b:Nat)(h0:b≠0):(0≤x→x/(b:Int)=((x.natAbs/b:Nat):Int)∧x%(b:Int)=((x.natAbs%b:Nat):Int))∧
  (x<0→x.natAbs%b=0→x/(b:Int)= -((x.natAbs/b:Nat):Int)∧x%(b:Int)=0)∧
  (x<0→x.natAbs%b≠0→x/(b:Int)= -((x.natAbs/b:Nat):Int)-1∧x%(b:Int)=(b:Int)-((x.natAbs%b:Nat):Int)):=by
 have e:=Nat.div_add_mod x.natAbs b
 have l:=Nat.mod_lt x.natAbs (show 0<b by omega)
 have hb:(0:Int)<b:=by omega
 have e':(b:Int)*((x.natAbs/b:Nat):Int)+((x.natAbs%b:Nat):Int)=x.natAbs:=by rw [←Int.natCast_mul, ←Int.natCast_add,e]
 generalize x.natAbs/b=q at*
 generalize x.natAbs%b=r at*
 refine ⟨fun h=> ?_,fun h h2=> ?_,fun h h2=> ?_⟩
 ·rw [Int.ediv_emod_unique hb];omega
 ·rw [Int.ediv_emod_unique hb,Int.mul_neg];omega
 ·rw [Int.ediv_emod_unique hb,Int.mul_sub,Int.mul_neg];omega
set_option maxHeartbeats 2000000 in
theorem rdiv_z(x:Int)(b:Nat)(hx:(nb x.natAbs).size<300000000000)(hb:(nb b).size<300000000000)(h0:b≠0):Fun Tryz.prog 254 [zD x,zD (b:Int)] [zD (x/(b:Int)),zD (x%(b:Int)),i64 0] :=by
 have c1:=rcanon_z x
 have c2:=rcanon_z (b:Int)
 rw [zD_nat] at*
 refine fun_of_go (fun t=>t==2||t==3) mixed tOk Tryz.func254 rfl rfl ?_
 conv=>whnf
 refine callv_data c1 ?_
 conv=>whnf
 refine callv_data c2 ?_
 conv=>whnf
 refine safe_intro (by kernel_rfl) ?_
 conv=>whnf
 have n1:=rneg_c false (nb (x.natAbs/b))
 rw [bv_nb,show sg false (x.natAbs/b)=((x.natAbs/b:Nat):Int) from rfl] at n1
 have n2:=rof_c 1 (by omega)
 have m1:(nb (x.natAbs/b)).size≤(nb x.natAbs).size:=nb_mono (Nat.div_le_self _ _)
 have m2:(nb (x.natAbs%b)).size≤(nb b).size:=nb_mono (Nat.le_of_lt (Nat.mod_lt _ (by omega)))
 have n3:=rsub_z (-((x.natAbs/b:Nat):Int)) 1 (by rw [Int.natAbs_neg,Int.natAbs_natCast];omega) (by decide)
 have n4:=rsub_z (b:Int) ((x.natAbs%b:Nat):Int) (by rw [Int.natAbs_natCast];omega) (by rw [Int.natAbs_natCast];omega)
 rw [zD_nat,zD_nat] at n4
 obtain ⟨z1,z2,z3⟩:=ediv_abs x b h0
 refine cond_b (fun h=> ?_) (fun h=> ?_)
 ·rw [nb_ne,decide_eq_true_eq] at h
  exact absurd h h0
 ·conv=>whnf
  refine cond_d (fun h1=> ?_) (fun h1=> ?_)
  ·conv=>whnf
   refine cond_d (fun h2=> ?_) (fun h2=> ?_)
   ·conv=>whnf
    refine callv_data (rsmall_n x.natAbs (by omega)) ?_
    conv=>whnf
    refine callv_data (rsmall_n b (by omega)) ?_
    conv=>whnf
    refine safe_intro (by kernel_rfl) ?_
    conv=>whnf
    have b1:=small_n (a:=x.natAbs) (by omega)
    have b2:=small_n (a:=b) (by omega)
    have q1:Int.tdiv (x.natAbs:Int) (b:Int)=((x.natAbs/b:Nat):Int):=rfl
    have q2:Int.tmod (x.natAbs:Int) (b:Int)=((x.natAbs%b:Nat):Int):=rfl
    have q3:=Nat.div_le_self x.natAbs b
    have q4:=Nat.mod_lt x.natAbs (show 0<b by omega)
    have q5:(0:Int)≤((x.natAbs/b:Nat):Int):=Int.natCast_nonneg _
    rw [q1]
    refine sd_dd (by omega) (by omega) ?_
    conv=>whnf
    refine callv_data (rof_n (x.natAbs/b) (by omega)) ?_
    conv=>whnf
    rw [q2]
    refine sd_d (by omega) ?_
    conv=>whnf
    refine callv_data (rof_n (x.natAbs%b) (by omega)) ?_
    conv=>whnf
    refine safe_intro (by kernel_rfl) ?_
    conv=>whnf
    refine cond_ne (fun g=> ?_) (fun g=> ?_)
    ·conv=>whnf
     have hx0:x<0:=by rw [ng_eq] at g;simpa using g
     refine call_data rfl rfl n1 ?_
     conv=>whnf
     refine cond_b (fun g2=> ?_) (fun g2=> ?_)
     ·conv=>whnf
      rw [nb_ne] at g2
      obtain ⟨y1,y2⟩:=z3 hx0 (by simpa using g2)
      rw [y1,y2]
      refine callv_data n2 ?_
      conv=>whnf
      refine callv_data n3 ?_
      conv=>whnf
      refine safe_intro (by kernel_rfl) ?_
      conv=>whnf
      refine call_data rfl rfl n4 ?_
      conv=>whnf
      refine safe_intro (by kernel_rfl) ?_
      conv=>whnf
      exact ⟨⟨rfl,rfl,trivial⟩,⟨rfl,rfl,trivial⟩,rfl,trivial⟩
     ·conv=>whnf
      rw [nb_ne] at g2
      have r0:x.natAbs%b=0:=by simpa using g2
      obtain ⟨y1,y2⟩:=z2 hx0 r0
      rw [y1,y2,zD_zero,r0,nb_zero]
      refine safe_intro (by kernel_rfl) ?_
      conv=>whnf
      exact ⟨⟨rfl,rfl,trivial⟩,⟨rfl,rfl,trivial⟩,rfl,trivial⟩
    ·conv=>whnf
     have hx0:0≤x:=by rw [ng_eq] at g;simpa using g
     obtain ⟨y1,y2⟩:=z1 hx0
     rw [y1,y2,zD_nat,zD_nat]
     refine safe_intro (by kernel_rfl) ?_
     conv=>whnf
     exact ⟨⟨rfl,rfl,trivial⟩,⟨rfl,rfl,trivial⟩,rfl,trivial⟩
   ·conv=>whnf
    refine call_data rfl rfl (rdivMag_n x.natAbs b (by omega) (by omega) h0) ?_
    conv=>whnf
    refine cond_ne (fun g=> ?_) (fun g=> ?_)
    ·conv=>whnf
     have hx0:x<0:=by rw [ng_eq] at g;simpa using g
     refine call_data rfl rfl n1 ?_
     conv=>whnf
     refine cond_b (fun g2=> ?_) (fun g2=> ?_)
     ·conv=>whnf
      rw [nb_ne] at g2
      obtain ⟨y1,y2⟩:=z3 hx0 (by simpa using g2)
      rw [y1,y2]
      refine callv_data n2 ?_
      conv=>whnf
      refine callv_data n3 ?_
      conv=>whnf
      refine safe_intro (by kernel_rfl) ?_
      conv=>whnf
      refine call_data rfl rfl n4 ?_
      conv=>whnf
      refine safe_intro (by kernel_rfl) ?_
      conv=>whnf
      exact ⟨⟨rfl,rfl,trivial⟩,⟨rfl,rfl,trivial⟩,rfl,trivial⟩
     ·conv=>whnf
      rw [nb_ne] at g2
      have r0:x.natAbs%b=0:=by simpa using g2
      obtain ⟨y1,y2⟩:=z2 hx0 r0
      rw [y1,y2,zD_zero,r0,nb_zero]
      refine safe_intro (by kernel_rfl) ?_
      conv=>whnf
      exact ⟨⟨rfl,rfl,trivial⟩,⟨rfl,rfl,trivial⟩,rfl,trivial⟩
    ·conv=>whnf
     have hx0:0≤x:=by rw [ng_eq] at g;simpa using g
     obtain ⟨y1,y2⟩:=z1 hx0
     rw [y1,y2,zD_nat,zD_nat]
     refine safe_intro (by kernel_rfl) ?_
     conv=>whnf
     exact ⟨⟨rfl,rfl,trivial⟩,⟨rfl,rfl,trivial⟩,rfl,trivial⟩
  ·conv=>whnf
   refine call_data rfl rfl (rdivMag_n x.natAbs b (by omega) (by omega) h0) ?_
   conv=>whnf
   refine cond_ne (fun g=> ?_) (fun g=> ?_)
   ·conv=>whnf
    have hx0:x<0:=by rw [ng_eq] at g;simpa using g
    refine call_data rfl rfl n1 ?_
    conv=>whnf
    refine cond_b (fun g2=> ?_) (fun g2=> ?_)
    ·conv=>whnf
     rw [nb_ne] at g2
     obtain ⟨y1,y2⟩:=z3 hx0 (by simpa using g2)
     rw [y1,y2]
     refine callv_data n2 ?_
     conv=>whnf
     refine callv_data n3 ?_
     conv=>whnf
     refine safe_intro (by kernel_rfl) ?_
     conv=>whnf
     refine call_data rfl rfl n4 ?_
     conv=>whnf
     refine safe_intro (by kernel_rfl) ?_
     conv=>whnf
     exact ⟨⟨rfl,rfl,trivial⟩,⟨rfl,rfl,trivial⟩,rfl,trivial⟩
    ·conv=>whnf
     rw [nb_ne] at g2
     have r0:x.natAbs%b=0:=by simpa using g2
     obtain ⟨y1,y2⟩:=z2 hx0 r0
     rw [y1,y2,zD_zero,r0,nb_zero]
     refine safe_intro (by kernel_rfl) ?_
     conv=>whnf
     exact ⟨⟨rfl,rfl,trivial⟩,⟨rfl,rfl,trivial⟩,rfl,trivial⟩
   ·conv=>whnf
    have hx0:0≤x:=by rw [ng_eq] at g;simpa using g
    obtain ⟨y1,y2⟩:=z1 hx0
    rw [y1,y2,zD_nat,zD_nat]
    refine safe_intro (by kernel_rfl) ?_
    conv=>whnf
    exact ⟨⟨rfl,rfl,trivial⟩,⟨rfl,rfl,trivial⟩,rfl,trivial⟩
theorem rgcd_c(n m:Bool)(s t:ByteArray)(hs:s.size<300000000000)(ht:t.size<300000000000)(h0:bv t≠0):Fun Tryz.prog 253 [intD n s,intD m t] [zD ((Nat.gcd (bv s) (bv t):Nat):Int)] :=by
 have l1:=nb_size_le s
 have l2:=nb_size_le t
 have c1:=rtrim_c s
 have c2:=rtrim_c t
 generalize bv s=x at*
 generalize bv t=y at*
 rw [zD_nat]
 refine fun_of_go (fun t=>false) mixed tOk Tryz.func253 rfl rfl ?_
 conv=>whnf
 refine callv_data c1 ?_
 conv=>whnf
 refine callv_data c2 ?_
 conv=>whnf
 refine safe_intro (by kernel_rfl) ?_
 conv=>whnf
 refine loop_intro (fun t=>false) (fun z:Nat×Nat=>⟨fr 53 [(4,.ptr 0 0 0),(5,.d (.v (.string (nb z.1)))),(6,.d (.v (.string (nb z.2))))], [.box 99 [.d (.v (.bool false)),.d (.v (.string ⟨#[]⟩))]]⟩) (fun z=>Nat.gcd z.1 z.2=Nat.gcd x y∧(nb z.1).size<300000000000∧(nb z.2).size<300000000000∧(z.1≠0∨z.2≠0)) (fun z=>z.2) (x,y) mixed tOk ⟨rfl,by simp only;omega,by simp only;omega,.inr h0⟩ ?_ ?_
 ·refine weak_r ⟨⟨rfl,rfl,rfl,trivial⟩,trivial⟩ ⟨rfl,rfl,rfl,trivial⟩
 ·rintro ⟨a,b⟩ ⟨i1,i2,i3,i4⟩
  simp only at i1 i2 i3 i4 ⊢
  conv=>whnf
  refine cond_b (fun h=> ?_) (fun h=> ?_)
  ·have hb:b≠0:=by rw [nb_ne] at h;simpa using h
   conv=>whnf
   refine cond_d (fun h2=> ?_) (fun h2=> ?_)
   ·conv=>whnf
    refine call_data rfl rfl (rdivMag_n a b (by omega) (by omega) hb) ?_
    conv=>whnf
    refine ⟨(b,a%b),⟨by simp only;rw [Nat.gcd_comm, ←Nat.gcd_rec,Nat.gcd_comm];exact i1,by simp only;omega,by simp only;have:=nb_mono (Nat.le_of_lt (Nat.mod_lt a (show 0<b by omega)));omega,.inl hb⟩,by simp only;exact Nat.mod_lt a (by omega),weak_r ⟨⟨rfl,rfl,rfl,trivial⟩,trivial⟩ ⟨rfl,rfl,rfl,trivial⟩⟩
   ·conv=>whnf
    refine cond_d (fun h3=> ?_) (fun h3=> ?_)
    ·conv=>whnf
     refine call_data rfl rfl (rdivMag_n a b (by omega) (by omega) hb) ?_
     conv=>whnf
     refine ⟨(b,a%b),⟨by simp only;rw [Nat.gcd_comm, ←Nat.gcd_rec,Nat.gcd_comm];exact i1,by simp only;omega,by simp only;have:=nb_mono (Nat.le_of_lt (Nat.mod_lt a (show 0<b by omega)));omega,.inl hb⟩,by simp only;exact Nat.mod_lt a (by omega),weak_r ⟨⟨rfl,rfl,rfl,trivial⟩,trivial⟩ ⟨rfl,rfl,rfl,trivial⟩⟩
    ·conv=>whnf
     refine cond_bf (by rw [nb_ne];simpa using hb) ?_
     conv=>whnf
     refine call_data rfl rfl (rsmall_n a (by omega)) ?_
     conv=>whnf
     refine call_data rfl rfl (rsmall_n b (by omega)) ?_
     conv=>whnf
     have a1:=small_n (a:=a) (by omega)
     have a2:=small_n (a:=b) (by omega)
     refine loop_intro (fun t=>false) (fun z:Nat×Nat=>⟨fr 53 [(4,.ptr 0 0 0),(9,.d (i64 (z.1:Int))),(10,.d (i64 (z.2:Int)))], [.box 99 [.d (.v (.bool false)),.d (.v (.string ⟨#[]⟩))]]⟩) (fun z=>Nat.gcd z.1 z.2=Nat.gcd x y∧z.1<72057594037927936∧z.2<72057594037927936) (fun z=>z.2) (a,b) mixed tOk ⟨i1,a1,a2⟩ ?_ ?_
     ·refine weak_r ⟨⟨rfl,rfl,rfl,trivial⟩,trivial⟩ ⟨rfl,rfl,rfl,trivial⟩
     ·rintro ⟨c,d⟩ ⟨j1,j2,j3⟩
      simp only at j1 j2 j3 ⊢
      conv=>whnf
      refine cond_d (fun g=> ?_) (fun g=> ?_)
      ·conv=>whnf
       have r1:Int.tmod (c:Int) (d:Int)=((c%d:Nat):Int):=rfl
       rw [r1]
       have r2:=Nat.mod_lt c (show 0<d by omega)
       refine sd_d (by omega) ?_
       conv=>whnf
       refine safe_intro (by kernel_rfl) ?_
       conv=>whnf
       refine ⟨(d,c%d),⟨by simp only;rw [Nat.gcd_comm, ←Nat.gcd_rec,Nat.gcd_comm];exact j1,by simp only;omega,by simp only;omega⟩,by simp only;omega,weak_r ⟨⟨rfl,rfl,rfl,trivial⟩,trivial⟩ ⟨rfl,rfl,rfl,trivial⟩⟩
      ·have d0:d=0:=by omega
       subst d0
       conv=>whnf
       refine call_data rfl rfl (rof_n c (by omega)) ?_
       conv=>whnf
       rw [←j1,Nat.gcd_zero_right]
       exact ⟨⟨rfl,rfl,trivial⟩,trivial⟩
  ·have hb:b=0:=by rw [nb_ne] at h;simpa using h
   subst hb
   conv=>whnf
   refine cond_bt (by rw [nb_ne];rfl) ?_
   conv=>whnf
   rw [←i1,Nat.gcd_zero_right]
   exact ⟨⟨rfl,rfl,trivial⟩,trivial⟩
theorem rnumber_c(s:ByteArray)(hs:s.size≤7):Fun Tryz.prog 250 [.v (.string s)] [i64 (bv s)] :=by
 refine fun_of_go (fun t=>false) mixed tOk Tryz.func250 rfl rfl ?_
 conv=>whnf
 refine loop_intro (fun t=>false) (fun i:Nat=>⟨fr 19 [(0,.d (.v (.string s))),(2,.d (i64 0)),(3,.d (i64 (pre s i))),(4,.d (i64 i))], []⟩) (fun i=>i≤s.size) (fun i=>s.size-i) 0 mixed tOk (Nat.zero_le _) ?_ ?_
 ·refine weak_r trivial ⟨rfl,rfl, ?_,rfl,trivial⟩
  conv=>whnf
  rw [pre_zero];rfl
 ·intro i hi
  conv=>whnf
  refine cond_d (fun h2=> ?_) (fun h2=> ?_)<;>conv=>whnf
  ·obtain ⟨p1,p2⟩:=pre_step s i (by omega)
   have hp:=p54 (s:=s) (i:=i) (by omega) hs
   refine sd_d (by omega) ?_
   conv=>whnf
   refine sd_d (by omega) ?_
   conv=>whnf
   generalize s.data.toList[i]'_=b at p1 p2
   have hb:=b.toNat_lt
   refine sd_d (by rw [p1];omega) ?_
   conv=>whnf
   refine sd_d (by rw [p1];omega) ?_
   conv=>whnf
   refine sd_d (by omega) ?_
   conv=>whnf
   refine ⟨i+1,by omega,by omega,weak_r trivial ⟨rfl,rfl, ?_,rfl,trivial⟩⟩
   conv=>whnf
   rw [p1,p2]
   omega
  ·have hi2:i=s.size:=by omega
   refine ⟨?_,trivial⟩
   conv=>whnf
   rw [hi2,pre_all]
theorem shr8(n j:Nat)(hj:j≤7):Int.fdiv (n:Int) (2^min (((8*(j:Int))).toNat) IntKind.i64.bits)=((n/256^j:Nat):Int):=by
 have e:min (((8*(j:Int))).toNat) IntKind.i64.bits=8*j:=by
  show min _ 64=_
  omega
 rw [e,Int.fdiv_eq_ediv_of_nonneg _ (by exact Int.le_of_lt (Int.pow_pos (by omega)))]
 rw [show (256:Nat)=2^8 from rfl, ←Nat.pow_mul]
 push_cast;rfl
theorem rdigits_c(n:Nat)(h:n<72057594037927936):Fun Tryz.prog 251 [i64 (n:Int)] [.v (.string (nb n))] :=by
 refine fun_of_go (fun t=>false) mixed tOk Tryz.func251 rfl rfl ?_
 conv=>whnf
 refine loop_intro (fun t=>false) (fun j:Nat=>⟨fr 30 [(0,.d (i64 (n:Int))),(3,.own 0 0),(4,.d (i64 (8*(j:Int)-8)))], [.row 0 5 1 1 (by8 (nbl (n/256^j)))]⟩) (fun j=>j≤7) (fun j=>j) 7 mixed tOk (by omega) ?_ ?_
 ·have e:n/256^7=0:=Nat.div_eq_of_lt h
  rw [e,nbl_zero]
  exact weak_r ⟨⟨rfl,rfl,rfl,rfl,by unfold by8;rfl⟩,trivial⟩ ⟨rfl,trivial,rfl,trivial⟩
 ·intro j hj
  rcases j with _|i
  ·conv=>whnf
   refine cond_df (by omega) ?_
   conv=>whnf
   refine sd_intro (by8_all _) ?_
   conv=>whnf
   refine ⟨?_,trivial⟩
   conv=>whnf
   rw [Nat.pow_zero,Nat.div_one,by8_str]
   rfl
  ·rw [show 8*((i+1:Nat):Int)-8=8*(i:Int) by omega]
   have hl8:=by8_length (nbl (n/256^(i+1)))
   have hsh:=shr8 n i (by omega)
   have hsz:=nbl_length_le (n:=n/256^(i+1)) (k:=7) (Nat.lt_of_le_of_lt (Nat.div_le_self _ _) (by have:(256:Nat)^7=72057594037927936:=rfl;omega))
   have hdd:n/256^i/256=n/256^(i+1):=by rw [Nat.div_div_eq_div_mul, ←Nat.pow_succ]
   have hle:n/256^i≤n:=Nat.div_le_self _ _
   have htm:Int.tmod ((n/256^i:Nat):Int) 256=((n/256^i%256:Nat):Int):=rfl
   conv=>whnf
   refine cond_dt (by omega) ?_
   conv=>whnf
   refine sd_d (by omega) ?_
   conv=>whnf
   rw [hsh]
   refine sd_d (by omega) ?_
   conv=>whnf
   rw [htm]
   generalize hN:n/256^i=N at*
   have hz:N/256=0∨N≠0:=by omega
   refine cond_d (fun g=> ?_) (fun g=> ?_)
   ·have hN0:N≠0:=by omega
    conv=>whnf
    refine sd_d (by omega) ?_
    conv=>whnf
    rw [hsh]
    conv=>whnf
    refine sd_app (by8_uni _) (by intro x hx;simp at hx;subst hx;rfl) (by simp only [maxLen,List.length_cons,List.length_nil];omega) ?_
    conv=>whnf
    refine sd_d (by omega) ?_
    conv=>whnf
    refine ⟨i,by omega,by omega,weak_r ⟨⟨rfl,rfl,rfl,rfl, ?_⟩,trivial⟩ ⟨rfl,trivial, ?_,trivial⟩⟩
    ·rw [hN,nbl_pos hN0,hdd, ←by8_app]
     congr 1
     have e9:((N:Int))%256=((UInt8.ofNat (N%256)).toNat:Int):=by simp only [UInt8.toNat_ofNat'];omega
     unfold by8
     simp only [List.map_cons,List.map_nil]
     rw [e9]
    ·conv=>whnf
   ·conv=>whnf
    refine cond_d (fun g2=> ?_) (fun g2=> ?_)
    ·have hN0:N≠0:=by
      intro hh
      have hq:n/256^(i+1)=0:=by rw [←hdd,hh]
      rw [hl8,hq,nbl_zero] at g2
      simp at g2
     conv=>whnf
     refine sd_d (by omega) ?_
     conv=>whnf
     rw [hsh]
     conv=>whnf
     refine sd_app (by8_uni _) (by intro x hx;simp at hx;subst hx;rfl) (by simp only [maxLen,List.length_cons,List.length_nil];omega) ?_
     conv=>whnf
     refine sd_d (by omega) ?_
     conv=>whnf
     refine ⟨i,by omega,by omega,weak_r ⟨⟨rfl,rfl,rfl,rfl, ?_⟩,trivial⟩ ⟨rfl,trivial, ?_,trivial⟩⟩
     ·rw [hN,nbl_pos hN0,hdd, ←by8_app]
      congr 1
      have e9:((N:Int))%256=((UInt8.ofNat (N%256)).toNat:Int):=by simp only [UInt8.toNat_ofNat'];omega
      unfold by8
      simp only [List.map_cons,List.map_nil]
      rw [e9]
     ·conv=>whnf
    ·have hN0:N=0:=by
      rw [hl8] at g2
      have:nbl (n/256^(i+1))= [] :=List.eq_nil_of_length_eq_zero (by omega)
      have:=nbl_eq_nil.1 this
      omega
     conv=>whnf
     refine sd_d (by omega) ?_
     conv=>whnf
     refine ⟨i,by omega,by omega,weak_r ⟨⟨rfl,rfl,rfl,rfl, ?_⟩,trivial⟩ ⟨rfl,trivial, ?_,trivial⟩⟩
     ·rw [hN, ←hdd,hN0]
     ·conv=>whnf
theorem rsm_t(r:RD)(h1:r.num.size≤3)(h2:r.den.size≤3):Fun Tryz.prog 172 [rdD r] [i64 (iv r.neg r.num),i64 (dv r.den:Nat),.v (.bool true)] :=by
 have c1:=rnumber_c r.num (by omega)
 have c2:=rnumber_c r.den (by omega)
 have hb:bv r.num<16777216:=by
  have a1:bv r.num<256^r.num.size:=bvl_lt _
  have a2:=Nat.pow_le_pow_right (n:=256) (by omega) h1
  have a3:(256:Nat)^3=16777216:=rfl
  omega
 unfold dv iv
 refine fun_of_go (fun t=>false) mixed tOk Tryz.func172 rfl rfl ?_
 conv=>whnf
 refine cond_df (by omega) ?_
 conv=>whnf
 refine cond_df (by omega) ?_
 conv=>whnf
 refine callv_data c1 ?_
 conv=>whnf
 refine callv_data c2 ?_
 conv=>whnf
 refine safe_intro (by kernel_rfl) ?_
 conv=>whnf
 refine cond_d (fun g=> ?_) (fun g=> ?_)
 ·conv=>whnf
  refine cond_intro (fun g2=> ?_) (fun g2=> ?_)
  ·conv=>whnf
   refine sd_d (by omega) ?_
   conv=>whnf
   refine ⟨?_, ?_,rfl,trivial⟩
   ·conv=>whnf
    rw [if_pos g2];omega
   ·conv=>whnf
    rw [if_pos (show bv r.den=0 by omega)]
    try rfl
  ·conv=>whnf
   refine ⟨?_, ?_,rfl,trivial⟩
   ·conv=>whnf
    rw [if_neg (by rw [g2];simp)]
   ·conv=>whnf
    rw [if_pos (show bv r.den=0 by omega)]
    try rfl
 ·conv=>whnf
  refine cond_intro (fun g2=> ?_) (fun g2=> ?_)
  ·conv=>whnf
   refine sd_d (by omega) ?_
   conv=>whnf
   refine ⟨?_, ?_,rfl,trivial⟩
   ·conv=>whnf
    rw [if_pos g2];omega
   ·conv=>whnf
    rw [if_neg (show¬bv r.den=0 by omega)]
    try rfl
  ·conv=>whnf
   refine ⟨?_, ?_,rfl,trivial⟩
   ·conv=>whnf
    rw [if_neg (by rw [g2];simp)]
   ·conv=>whnf
    rw [if_neg (show¬bv r.den=0 by omega)]
    try rfl
theorem rsm_f(r:RD)(h: ¬(r.num.size≤3∧r.den.size≤3)):Fun Tryz.prog 172 [rdD r] [i64 0,i64 0,.v (.bool false)] :=by
 refine fun_of_go (fun t=>false) mixed tOk Tryz.func172 rfl rfl ?_
 conv=>whnf
 refine cond_d (fun g=> ?_) (fun g=> ?_)
 ·conv=>whnf
  exact ⟨rfl,rfl,rfl,trivial⟩
 ·conv=>whnf
  refine cond_d (fun g=> ?_) (fun g=> ?_)
  ·conv=>whnf
   exact ⟨rfl,rfl,rfl,trivial⟩
  ·omega
theorem rpack_c(n d:Int)(hn: -36028797018963968<n∧n<36028797018963968)(hd:0<d∧d<36028797018963968):Fun Tryz.prog 173 [i64 n,i64 d] [ratD (mkRat n d.toNat)] :=by
 obtain ⟨N,hN⟩: ∃N,N=n.natAbs:=⟨_,rfl⟩
 obtain ⟨M,hM⟩: ∃M:Nat,d=(M:Int):=⟨d.toNat,by omega⟩
 subst hM
 rw [Int.toNat_natCast]
 have hd0:M≠0:=by omega
 obtain ⟨p1,p2⟩:=mkRat_parts n hd0
 have e2:decide (n<0)=rneg (mkRat n M):=by
  have hG:(0:Int)<(Nat.gcd n.natAbs M:Nat):=by
   have:=Nat.gcd_pos_of_pos_right n.natAbs (show 0<M by omega);omega
  rw [rneg_eq,p1]
  by_cases hneg:n<0
  ·simp [hneg,Int.ediv_neg_of_neg_of_pos hneg hG]
  ·have:=Int.ediv_nonneg (show 0≤n by omega) (Int.le_of_lt hG)
   simp [hneg];omega
 have e1:nb (n.natAbs/Nat.gcd n.natAbs M)=rnum (mkRat n M):=by
  rw [rnum_eq,p1,Int.natAbs_ediv_of_dvd (Int.ofNat_dvd_left.2 (Nat.gcd_dvd_left _ _))];rfl
 have e3:=rden_eq (mkRat n M)
 rw [p2] at e3
 refine fun_of_go (fun t=>false) mixed tOk Tryz.func173 rfl rfl ?_
 conv=>whnf
 have ec:N=0→canon (mkRat n M)=⟨false,emp,emp⟩:=fun h=>by
  rw [show n=0 by omega,Rat.zero_mkRat];decide
 generalize mkRat n M=Q at*
 generalize hz:decide (n<0)=z at*
 refine cond_b (fun g=> ?_) (fun g=> ?_)
 ·conv=>whnf
  have hneg:n<0:=by rw [g] at hz;simpa using hz
  refine sd_d (by omega) ?_
  conv=>whnf
  rw [show 0-n=(n.natAbs:Int) by omega]
  rw [←hN] at e1 e3 ⊢
  conv=>whnf
  refine cond_e (fun g0=> ?_) (fun g0=> ?_)
  ·conv=>whnf
   refine ⟨?_,trivial⟩
   rw [ratD_eq]
   conv=>whnf
   rw [ec (by omega)]
   exact ⟨rfl,rfl,rfl,trivial⟩
  ·conv=>whnf
   refine loop_intro (fun t=>false) (fun p:Nat×Nat=>⟨fr 41 [(0,.d (i64 (N:Int))),(1,.d (i64 (M:Int))),(4,.ptr 0 0 0),(5,.ptr 1 0 0),(6,.d (i64 (p.1:Int))),(7,.d (i64 (p.2:Int)))], [.box 27 [.d (.v (.bool false)),.d (.v (.string ⟨#[]⟩)),.d (.v (.string ⟨#[]⟩))],.box 27 [.d (.v (.bool z)),.d (.v (.string ⟨#[]⟩)),.d (.v (.string ⟨#[]⟩))]]⟩) (fun p=>Nat.gcd p.1 p.2=Nat.gcd N M∧p.1<36028797018963968∧p.2<36028797018963968) (fun p=>p.2) (N,M) mixed tOk ⟨rfl,by simp only;omega,by simp only;omega⟩ ?_ ?_
   ·refine weak_r ⟨⟨rfl,rfl,rfl,rfl,trivial⟩,⟨rfl, ?_,rfl,rfl,trivial⟩,trivial⟩ ⟨rfl,rfl,rfl,rfl,rfl,rfl,trivial⟩
    conv=>whnf
    rw [bz_eq]
   ·rintro ⟨a,b⟩ ⟨j1,j2,j3⟩
    simp only at j1 j2 j3 ⊢
    conv=>whnf
    refine cond_d (fun g1=> ?_) (fun g1=> ?_)
    ·conv=>whnf
     have r1:Int.tmod (a:Int) (b:Int)=((a%b:Nat):Int):=rfl
     rw [r1]
     have r2:=Nat.mod_lt a (show 0<b by omega)
     refine sd_d (by omega) ?_
     conv=>whnf
     refine safe_intro (by kernel_rfl) ?_
     conv=>whnf
     refine ⟨(b,a%b),⟨by simp only;rw [Nat.gcd_comm, ←Nat.gcd_rec,Nat.gcd_comm];exact j1,by simp only;omega,by simp only;omega⟩,by simp only;omega,weak_r ⟨⟨rfl,rfl,rfl,rfl,trivial⟩,⟨rfl,rfl,rfl,rfl,trivial⟩,trivial⟩ ⟨rfl,rfl,rfl,rfl,rfl,rfl,trivial⟩⟩
    ·have b0:b=0:=by omega
     subst b0
     rw [Nat.gcd_zero_right] at j1
     rw [←j1] at e1 e3
     have ha:a≠0:=by
      rw [j1];intro h;exact hd0 (Nat.gcd_eq_zero_iff.1 h).2
     have q1:Int.tdiv (N:Int) (a:Int)=((N/a:Nat):Int):=rfl
     have q2:Int.tdiv (M:Int) (a:Int)=((M/a:Nat):Int):=rfl
     have q3:=Nat.div_le_self N a
     have q4:=Nat.div_le_self M a
     have q5:1≤M/a:=by
      rw [j1];exact Nat.div_pos (Nat.le_of_dvd (by omega) (Nat.gcd_dvd_right _ _)) (Nat.gcd_pos_of_pos_right _ (by omega))
     have q6:(0:Int)≤((N/a:Nat):Int):=Int.natCast_nonneg _
     conv=>whnf
     rw [q1]
     refine sd_dd (by omega) (by omega) ?_
     conv=>whnf
     refine call_data rfl rfl (rdigits_c (N/a) (by omega)) ?_
     conv=>whnf
     rw [q2]
     generalize N/a=u at*
     generalize M/a=v at*
     refine sd_dd (by omega) (by omega) ?_
     conv=>whnf
     refine cond_d (fun g4=> ?_) (fun g4=> ?_)
     ·conv=>whnf
      rw [q2]
      refine sd_dd (by omega) (by omega) ?_
      conv=>whnf
      refine call_data rfl rfl (rdigits_c v (by omega)) ?_
      conv=>whnf
      rw [if_neg (by omega)] at e3
      refine ⟨?_,trivial⟩
      conv=>whnf
      exact ⟨e2,e1,e3.symm,trivial⟩
     ·conv=>whnf
      rw [if_pos (by omega)] at e3
      refine ⟨?_,trivial⟩
      conv=>whnf
      exact ⟨e2,e1,e3.symm,trivial⟩
 ·have hpos:0≤n:=by rw [g] at hz;simpa using hz
  rw [←hN] at e1 e3
  have hnn:n=(N:Int):=by omega
  rw [hnn]
  conv=>whnf
  refine cond_e (fun g0=> ?_) (fun g0=> ?_)
  ·conv=>whnf
   refine ⟨?_,trivial⟩
   rw [ratD_eq]
   conv=>whnf
   rw [ec (by omega)]
   exact ⟨rfl,rfl,rfl,trivial⟩
  ·conv=>whnf
   refine loop_intro (fun t=>false) (fun p:Nat×Nat=>⟨fr 41 [(0,.d (i64 (N:Int))),(1,.d (i64 (M:Int))),(4,.ptr 0 0 0),(5,.ptr 1 0 0),(6,.d (i64 (p.1:Int))),(7,.d (i64 (p.2:Int)))], [.box 27 [.d (.v (.bool false)),.d (.v (.string ⟨#[]⟩)),.d (.v (.string ⟨#[]⟩))],.box 27 [.d (.v (.bool z)),.d (.v (.string ⟨#[]⟩)),.d (.v (.string ⟨#[]⟩))]]⟩) (fun p=>Nat.gcd p.1 p.2=Nat.gcd N M∧p.1<36028797018963968∧p.2<36028797018963968) (fun p=>p.2) (N,M) mixed tOk ⟨rfl,by simp only;omega,by simp only;omega⟩ ?_ ?_
   ·refine weak_r ⟨⟨rfl,rfl,rfl,rfl,trivial⟩,⟨rfl, ?_,rfl,rfl,trivial⟩,trivial⟩ ⟨rfl,rfl,rfl,rfl,rfl,rfl,trivial⟩
    conv=>whnf
    rw [bz_eq]
   ·rintro ⟨a,b⟩ ⟨j1,j2,j3⟩
    simp only at j1 j2 j3 ⊢
    conv=>whnf
    refine cond_d (fun g1=> ?_) (fun g1=> ?_)
    ·conv=>whnf
     have r1:Int.tmod (a:Int) (b:Int)=((a%b:Nat):Int):=rfl
     rw [r1]
     have r2:=Nat.mod_lt a (show 0<b by omega)
     refine sd_d (by omega) ?_
     conv=>whnf
     refine safe_intro (by kernel_rfl) ?_
     conv=>whnf
     refine ⟨(b,a%b),⟨by simp only;rw [Nat.gcd_comm, ←Nat.gcd_rec,Nat.gcd_comm];exact j1,by simp only;omega,by simp only;omega⟩,by simp only;omega,weak_r ⟨⟨rfl,rfl,rfl,rfl,trivial⟩,⟨rfl,rfl,rfl,rfl,trivial⟩,trivial⟩ ⟨rfl,rfl,rfl,rfl,rfl,rfl,trivial⟩⟩
    ·have b0:b=0:=by omega
     subst b0
     rw [Nat.gcd_zero_right] at j1
     rw [←j1] at e1 e3
     have ha:a≠0:=by
      rw [j1];intro h;exact hd0 (Nat.gcd_eq_zero_iff.1 h).2
     have q1:Int.tdiv (N:Int) (a:Int)=((N/a:Nat):Int):=rfl
     have q2:Int.tdiv (M:Int) (a:Int)=((M/a:Nat):Int):=rfl
     have q3:=Nat.div_le_self N a
     have q4:=Nat.div_le_self M a
     have q5:1≤M/a:=by
      rw [j1];exact Nat.div_pos (Nat.le_of_dvd (by omega) (Nat.gcd_dvd_right _ _)) (Nat.gcd_pos_of_pos_right _ (by omega))
     have q6:(0:Int)≤((N/a:Nat):Int):=Int.natCast_nonneg _
     conv=>whnf
     rw [q1]
     refine sd_dd (by omega) (by omega) ?_
     conv=>whnf
     refine call_data rfl rfl (rdigits_c (N/a) (by omega)) ?_
     conv=>whnf
     rw [q2]
     generalize N/a=u at*
     generalize M/a=v at*
     refine sd_dd (by omega) (by omega) ?_
     conv=>whnf
     refine cond_d (fun g4=> ?_) (fun g4=> ?_)
     ·conv=>whnf
      rw [q2]
      refine sd_dd (by omega) (by omega) ?_
      conv=>whnf
      refine call_data rfl rfl (rdigits_c v (by omega)) ?_
      conv=>whnf
      rw [if_neg (by omega)] at e3
      refine ⟨?_,trivial⟩
      conv=>whnf
      exact ⟨e2,e1,e3.symm,trivial⟩
     ·conv=>whnf
      rw [if_pos (by omega)] at e3
      refine ⟨?_,trivial⟩
      conv=>whnf
      exact ⟨e2,e1,e3.symm,trivial⟩
theorem rnorm_c(n:Bool)(s:ByteArray)(hs:s.size<400000000000):Fun Tryz.prog 176 [intD n s,intD false ⟨#[]⟩] [zD (sg n (bv s))] :=by
 have:=radd_c n false s ⟨#[]⟩ hs (by decide)
 rwa [bv_nil,show sg false 0=0 from rfl,Int.add_zero] at this
theorem rparts_c(r:RD)(h1:r.num.size<400000000000)(h2:r.den.size<400000000000):Fun Tryz.prog 174 [rdD r] [zD (iv r.neg r.num),zD (dv r.den:Nat)] :=by
 have c1:=rnorm_c r.neg r.num h1
 have c2:=rnorm_c false r.den h2
 rw [show sg false (bv r.den)=((bv r.den:Nat):Int) from rfl,zD_nat] at c2
 rw [zD_nat,iv_sg]
 refine fun_of_go (fun t=>false) mixed tOk Tryz.func174 rfl rfl ?_
 conv=>whnf
 refine call_data rfl rfl c1 ?_
 conv=>whnf
 refine call_data rfl rfl c2 ?_
 conv=>whnf
 refine cond_b (fun g=> ?_) (fun g=> ?_)
 ·rw [nb_ne,decide_eq_true_eq] at g
  conv=>whnf
  refine call_data rfl rfl (rof_n 1 (by omega)) ?_
  conv=>whnf
  refine safe_intro (by kernel_rfl) ?_
  conv=>whnf
  unfold dv
  rw [if_pos g]
  exact ⟨⟨rfl,rfl,trivial⟩,⟨rfl,rfl,trivial⟩,trivial⟩
 ·rw [nb_ne,decide_eq_false_iff_not] at g
  conv=>whnf
  refine safe_intro (by kernel_rfl) ?_
  conv=>whnf
  unfold dv
  rw [if_neg g]
  exact ⟨⟨rfl,rfl,trivial⟩,⟨rfl,rfl,trivial⟩,trivial⟩
theorem nb_one(v:Nat):(nb v==(⟨#[1]⟩:ByteArray))=decide (v=1):=by
 rw [byt_beq,decide_eq_decide,show (⟨#[1]⟩:ByteArray)=nb 1 from by decide]
 exact ⟨nb_inj,fun h=>by rw [h]⟩
theorem rreduce_c(x:Int)(b:Nat)(hx:(nb x.natAbs).size<200000000000)(hb:(nb b).size<200000000000)(h0:b≠0):Fun Tryz.prog 175 [zD x,zD (b:Int)] [ratD (mkRat x b)] :=by
 have c1:=rnorm_c (ng x) (nb x.natAbs) (by omega)
 have c2:=rnorm_c false (nb b) (by omega)
 rw [bv_nb,sg_ng] at c1
 rw [bv_nb,show sg false b=(b:Int) from rfl,zD_nat] at c2
 have c3:=rgcd_c (ng x) false (nb x.natAbs) (nb b) (by omega) (by omega) (by rw [bv_nb];exact h0)
 rw [bv_nb,bv_nb] at c3
 obtain ⟨p1,p2⟩:=mkRat_parts x h0
 have hG0:Nat.gcd x.natAbs b≠0:=fun h=>h0 (Nat.gcd_eq_zero_iff.1 h).2
 have hGb:Nat.gcd x.natAbs b≤b:=Nat.le_of_dvd (by omega) (Nat.gcd_dvd_right _ _)
 have ec:x=0→canon (mkRat x b)=⟨false,emp,emp⟩:=fun h=>by
  rw [h,Rat.zero_mkRat];decide
 have e1:=rnum_eq (mkRat x b)
 have e2:=rneg_eq (mkRat x b)
 have e3:=rden_eq (mkRat x b)
 rw [p1] at e1 e2
 rw [p2] at e3
 generalize Nat.gcd x.natAbs b=G at*
 have c4:=rdiv_z x G (by omega) (by have:=nb_mono hGb;omega) hG0
 have c5:=rdiv_z (b:Int) G (by rw [Int.natAbs_natCast];omega) (by have:=nb_mono hGb;omega) hG0
 rw [zD_nat] at c3 c4 c5
 rw [zD_nat] at c5
 rw [show (b:Int)/(G:Int)=((b/G:Nat):Int) from rfl,zD_nat] at c5
 rw [zD_nat]
 generalize mkRat x b=Q at*
 refine fun_of_go (fun t=>t==2||t==3) mixed tOk Tryz.func175 rfl rfl ?_
 conv=>whnf
 refine callv_data c1 ?_
 conv=>whnf
 refine callv_data c2 ?_
 conv=>whnf
 refine safe_intro (by kernel_rfl) ?_
 conv=>whnf
 refine cond_b (fun g=> ?_) (fun g=> ?_)
 ·rw [nb_ne,decide_eq_true_eq] at g
  conv=>whnf
  refine ⟨?_,trivial⟩
  rw [ratD_eq]
  conv=>whnf
  rw [ec (by omega)]
  exact ⟨rfl,rfl,rfl,trivial⟩
 ·rw [nb_ne,decide_eq_false_iff_not] at g
  conv=>whnf
  refine call_data rfl rfl c3 ?_
  conv=>whnf
  refine call_data rfl rfl c4 ?_
  conv=>whnf
  refine call_data rfl rfl c5 ?_
  conv=>whnf
  generalize x/(G:Int)=u at*
  generalize b/G=v at*
  have f2:ng u=rneg Q:=by rw [ng_eq];exact e2.symm
  refine cond_b (fun g2=> ?_) (fun g2=> ?_)
  ·rw [nb_one] at g2
   rw [if_neg (by simpa using g2)] at e3
   conv=>whnf
   refine ⟨?_,trivial⟩
   conv=>whnf
   exact ⟨f2,e1.symm,e3.symm,trivial⟩
  ·rw [nb_one] at g2
   rw [if_pos (by simpa using g2)] at e3
   conv=>whnf
   refine ⟨?_,trivial⟩
   conv=>whnf
   exact ⟨f2,e1.symm,e3.symm,trivial⟩
end Go.Nv
end
