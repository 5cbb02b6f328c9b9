import Derived.Test.YtdjbkccoofcnjaaGreatNvD9
import Derived.Test.YtdjbkccoofcnjaaGreatNvC5
import Derived.Test.YtdjbkccoofcnjaaGreatNvC7
set_option linter.all false
set_option maxRecDepth 100000
section
namespace Go.Nv
open Go.Proofs Nw
theorem nb_mul_sz(a b:Nat):(nb (a*b)).size≤(nb a).size+(nb b).size:=by
 have h1:=bvl_lt (nbl a)
 have h2:=bvl_lt (nbl b)
 rw [bvl_nbl] at h1 h2
 have:=Nat.mul_lt_mul'' h1 h2
 rw [←Nat.pow_add] at this
 exact nbl_length_le this
theorem nb_add_sz(a b k:Nat)(ha:(nb a).size≤k)(hb:(nb b).size≤k):(nb (a+b)).size≤k+1:=by
 have h1:=bvl_lt (nbl a)
 have h2:=bvl_lt (nbl b)
 rw [bvl_nbl] at h1 h2
 have h3:=Nat.pow_le_pow_right (n:=256) (by omega) (show (nbl a).length≤k from ha)
 have h4:=Nat.pow_le_pow_right (n:=256) (by omega) (show (nbl b).length≤k from hb)
 exact nbl_length_le (by rw [Nat.pow_succ];omega)
theorem iv_sz(r:RD):(nb (iv r.neg r.num).natAbs).size≤r.num.size:=abs_sg r.neg r.num
theorem dv_sz(r:RD):(nb (dv r.den)).size≤r.den.size∨(nb (dv r.den)).size≤1:=by
 unfold dv
 split
 ·exact .inr (by decide)
 ·exact .inl (nb_size_le r.den)
theorem rmul_z(x y:Int)(hx:(nb x.natAbs).size<400000000000)(hy:(nb y.natAbs).size<400000000000):Fun Tryz.prog 177 [zD x,zD y] [zD (x*y)] :=by
 have:=rmul_c (ng x) (ng y) (nb x.natAbs) (nb y.natAbs) hx hy
 rwa [bv_nb,bv_nb,sg_ng,sg_ng] at this
theorem rcmp_z(x y:Int):Fun Tryz.prog 233 [zD x,zD y] [i64 (cmpZ x y)] :=by
 have:=rcmpI_c (ng x) (ng y) (nb x.natAbs) (nb y.natAbs)
 rwa [bv_nb,bv_nb,sg_ng,sg_ng] at this
theorem small_bd{r:RD}(h1:r.num.size≤3)(h2:r.den.size≤3): -16777216<iv r.neg r.num∧iv r.neg r.num<16777216∧0<dv r.den∧dv r.den<16777216:=by
 have a1:bv r.num<256^r.num.size:=bvl_lt _
 have a2:=Nat.pow_le_pow_right (n:=256) (by omega) h1
 have b1:bv r.den<256^r.den.size:=bvl_lt _
 have b2:=Nat.pow_le_pow_right (n:=256) (by omega) h2
 have a3:(256:Nat)^3=16777216:=rfl
 have:=dv_pos r.den
 refine ⟨?_, ?_,this, ?_⟩
 ·unfold iv;split<;>omega
 ·unfold iv;split<;>omega
 ·unfold dv;split<;>omega
theorem pbd{x y:Int}(h1:x.natAbs<16777216)(h2:y.natAbs<16777216): -281474976710656<x*y∧x*y<281474976710656:=by
 have:=Nat.mul_lt_mul'' h1 h2
 rw [←Int.natAbs_mul] at this
 omega
theorem val_mk(r:RD):r.val=mkRat (iv r.neg r.num) (dv r.den):=rfl
set_option maxHeartbeats 2000000 in
theorem radd_r(r s:RD)(hr:Sz r)(hs:Sz s):Fun Tryz.prog 87 [rdD r,rdD s] [ratD (r.val+s.val)] :=by
 obtain ⟨r1,r2⟩:=hr
 obtain ⟨s1,s2⟩:=hs
 rw [val_mk,val_mk,Rat.mkRat_add_mkRat _ _ (by have:=dv_pos r.den;omega) (by have:=dv_pos s.den;omega)]
 have b1:=small_bd (r:=r)
 have b2:=small_bd (r:=s)
 have t1:=rsm_t r
 have t2:=rsm_t s
 have f1:=rsm_f r
 have f2:=rsm_f s
 have q1:=rparts_c r (by omega) (by omega)
 have q2:=rparts_c s (by omega) (by omega)
 have z1:=iv_sz r
 have z2:=iv_sz s
 have z3:=dv_sz r
 have z4:=dv_sz s
 have d1:=dv_pos r.den
 have d2:=dv_pos s.den
 generalize iv r.neg r.num=x at*
 generalize iv s.neg s.num=y at*
 generalize dv r.den=a at*
 generalize dv s.den=b at*
 have m1:=nb_mul_sz x.natAbs b
 have m2:=nb_mul_sz y.natAbs a
 have m3:=nb_mul_sz a b
 have e1:(x*(b:Int)).natAbs=x.natAbs*b:=by rw [Int.natAbs_mul,Int.natAbs_natCast]
 have e2:(y*(a:Int)).natAbs=y.natAbs*a:=by rw [Int.natAbs_mul,Int.natAbs_natCast]
 have m4:=nb_add_sz (x.natAbs*b) (y.natAbs*a) 199999999998 (by omega) (by omega)
 have m5:(nb (x*(b:Int)+y*(a:Int)).natAbs).size≤199999999999:=by
  have:=nb_mono (show (x*(b:Int)+y*(a:Int)).natAbs≤x.natAbs*b+y.natAbs*a by omega)
  omega
 have w1:=rmul_z x (b:Int) (by omega) (by rw [Int.natAbs_natCast];omega)
 have w2:=rmul_z y (a:Int) (by omega) (by rw [Int.natAbs_natCast];omega)
 have w3:=radd_z (x*(b:Int)) (y*(a:Int)) (by rw [e1];omega) (by rw [e2];omega)
 have w4:=rmul_z (a:Int) (b:Int) (by rw [Int.natAbs_natCast];omega) (by rw [Int.natAbs_natCast];omega)
 rw [show (a:Int)*(b:Int)=((a*b:Nat):Int) by push_cast;rfl] at w4
 have w5:=rreduce_c (x*(b:Int)+y*(a:Int)) (a*b) (by omega) (by omega) (by have:=Nat.mul_pos d1 d2;omega)
 refine fun_of_go (fun t=>false) mixed tOk Tryz.func87 rfl rfl ?_
 conv=>whnf
 by_cases hA:r.num.size≤3∧r.den.size≤3
 ·refine call_data rfl rfl (t1 hA.1 hA.2) ?_
  conv=>whnf
  by_cases hB:s.num.size≤3∧s.den.size≤3
  ·refine call_data rfl rfl (t2 hB.1 hB.2) ?_
   conv=>whnf
   obtain ⟨i1,i2,i3,i4⟩:=b1 hA.1 hA.2
   obtain ⟨j1,j2,j3,j4⟩:=b2 hB.1 hB.2
   have k1:=pbd (x:=x) (y:=(b:Int)) (by omega) (by omega)
   have k2:=pbd (x:=y) (y:=(a:Int)) (by omega) (by omega)
   have k3:=pbd (x:=(a:Int)) (y:=(b:Int)) (by omega) (by omega)
   have k4:=Nat.mul_pos d1 d2
   have k5:(a:Int)*(b:Int)=((a*b:Nat):Int):=by push_cast;rfl
   refine sd_d (by omega) ?_
   conv=>whnf
   refine sd_d (by omega) ?_
   conv=>whnf
   refine sd_d (by omega) ?_
   conv=>whnf
   refine sd_d (by omega) ?_
   conv=>whnf
   rw [k5] at k3 ⊢
   have pk:=rpack_c (x*(b:Int)+y*(a:Int)) ((a*b:Nat):Int) (by omega) (by omega)
   rw [Int.toNat_natCast] at pk
   refine call_data rfl rfl pk ?_
   conv=>whnf
   exact ⟨⟨rfl,rfl,rfl,trivial⟩,trivial⟩
  ·refine call_data rfl rfl (f2 hB) ?_
   conv=>whnf
   refine call_data rfl rfl q1 ?_
   conv=>whnf
   refine call_data rfl rfl q2 ?_
   conv=>whnf
   refine callv_data w1 ?_
   conv=>whnf
   refine callv_data w2 ?_
   conv=>whnf
   refine callv_data w3 ?_
   conv=>whnf
   refine callv_data w4 ?_
   conv=>whnf
   refine callv_data w5 ?_
   conv=>whnf
   refine safe_intro (by kernel_rfl) ?_
   conv=>whnf
   exact ⟨⟨rfl,rfl,rfl,trivial⟩,trivial⟩
 ·refine call_data rfl rfl (f1 hA) ?_
  conv=>whnf
  by_cases hB:s.num.size≤3∧s.den.size≤3
  ·refine call_data rfl rfl (t2 hB.1 hB.2) ?_
   conv=>whnf
   refine call_data rfl rfl q1 ?_
   conv=>whnf
   refine call_data rfl rfl q2 ?_
   conv=>whnf
   refine callv_data w1 ?_
   conv=>whnf
   refine callv_data w2 ?_
   conv=>whnf
   refine callv_data w3 ?_
   conv=>whnf
   refine callv_data w4 ?_
   conv=>whnf
   refine callv_data w5 ?_
   conv=>whnf
   refine safe_intro (by kernel_rfl) ?_
   conv=>whnf
   exact ⟨⟨rfl,rfl,rfl,trivial⟩,trivial⟩
  ·refine call_data rfl rfl (f2 hB) ?_
   conv=>whnf
   refine call_data rfl rfl q1 ?_
   conv=>whnf
   refine call_data rfl rfl q2 ?_
   conv=>whnf
   refine callv_data w1 ?_
   conv=>whnf
   refine callv_data w2 ?_
   conv=>whnf
   refine callv_data w3 ?_
   conv=>whnf
   refine callv_data w4 ?_
   conv=>whnf
   refine callv_data w5 ?_
   conv=>whnf
   refine safe_intro (by kernel_rfl) ?_
   conv=>whnf
   exact ⟨⟨rfl,rfl,rfl,trivial⟩,trivial⟩
theorem zcast(a:Nat):(((a:Int)).natAbs)=a:=Int.natAbs_natCast a
set_option maxHeartbeats 2000000 in
theorem rmul_r(r s:RD)(hr:Sz r)(hs:Sz s):Fun Tryz.prog 181 [rdD r,rdD s] [ratD (r.val*s.val)] :=by
 obtain ⟨r1,r2⟩:=hr
 obtain ⟨s1,s2⟩:=hs
 rw [val_mk,val_mk,Rat.mkRat_mul_mkRat]
 have b1:=small_bd (r:=r)
 have b2:=small_bd (r:=s)
 have t1:=rsm_t r
 have t2:=rsm_t s
 have f1:=rsm_f r
 have f2:=rsm_f s
 have q1:=rparts_c r (by omega) (by omega)
 have q2:=rparts_c s (by omega) (by omega)
 have z1:=iv_sz r
 have z2:=iv_sz s
 have z3:=dv_sz r
 have z4:=dv_sz s
 have d1:=dv_pos r.den
 have d2:=dv_pos s.den
 generalize iv r.neg r.num=x at*
 generalize iv s.neg s.num=y at*
 generalize dv r.den=a at*
 generalize dv s.den=b at*
 have m1:=nb_mul_sz x.natAbs y.natAbs
 have m3:=nb_mul_sz a b
 have e1:(x*y).natAbs=x.natAbs*y.natAbs:=Int.natAbs_mul x y
 have w1:=rmul_z x y (by omega) (by omega)
 have w4:=rmul_z (a:Int) (b:Int) (by rw [zcast];omega) (by rw [zcast];omega)
 rw [show (a:Int)*(b:Int)=((a*b:Nat):Int) by push_cast;rfl] at w4
 have w5:=rreduce_c (x*y) (a*b) (by rw [e1];omega) (by omega) (by have:=Nat.mul_pos d1 d2;omega)
 refine fun_of_go (fun t=>false) mixed tOk Tryz.func181 rfl rfl ?_
 conv=>whnf
 by_cases hA:r.num.size≤3∧r.den.size≤3
 ·refine call_data rfl rfl (t1 hA.1 hA.2) ?_
  conv=>whnf
  by_cases hB:s.num.size≤3∧s.den.size≤3
  ·refine call_data rfl rfl (t2 hB.1 hB.2) ?_
   conv=>whnf
   obtain ⟨i1,i2,i3,i4⟩:=b1 hA.1 hA.2
   obtain ⟨j1,j2,j3,j4⟩:=b2 hB.1 hB.2
   have k1:=pbd (x:=x) (y:=y) (by omega) (by omega)
   have k3:=pbd (x:=(a:Int)) (y:=(b:Int)) (by omega) (by omega)
   have k4:=Nat.mul_pos d1 d2
   have k5:(a:Int)*(b:Int)=((a*b:Nat):Int):=by push_cast;rfl
   refine sd_d (by omega) ?_
   conv=>whnf
   refine sd_d (by omega) ?_
   conv=>whnf
   rw [k5] at k3 ⊢
   have pk:=rpack_c (x*y) ((a*b:Nat):Int) (by omega) (by omega)
   rw [Int.toNat_natCast] at pk
   refine call_data rfl rfl pk ?_
   conv=>whnf
   exact ⟨⟨rfl,rfl,rfl,trivial⟩,trivial⟩
  ·refine call_data rfl rfl (f2 hB) ?_
   conv=>whnf
   refine call_data rfl rfl q1 ?_
   conv=>whnf
   refine call_data rfl rfl q2 ?_
   conv=>whnf
   refine callv_data w1 ?_
   conv=>whnf
   refine callv_data w4 ?_
   conv=>whnf
   refine callv_data w5 ?_
   conv=>whnf
   refine safe_intro (by kernel_rfl) ?_
   conv=>whnf
   exact ⟨⟨rfl,rfl,rfl,trivial⟩,trivial⟩
 ·refine call_data rfl rfl (f1 hA) ?_
  conv=>whnf
  by_cases hB:s.num.size≤3∧s.den.size≤3
  ·refine call_data rfl rfl (t2 hB.1 hB.2) ?_
   conv=>whnf
   refine call_data rfl rfl q1 ?_
   conv=>whnf
   refine call_data rfl rfl q2 ?_
   conv=>whnf
   refine callv_data w1 ?_
   conv=>whnf
   refine callv_data w4 ?_
   conv=>whnf
   refine callv_data w5 ?_
   conv=>whnf
   refine safe_intro (by kernel_rfl) ?_
   conv=>whnf
   exact ⟨⟨rfl,rfl,rfl,trivial⟩,trivial⟩
  ·refine call_data rfl rfl (f2 hB) ?_
   conv=>whnf
   refine call_data rfl rfl q1 ?_
   conv=>whnf
   refine call_data rfl rfl q2 ?_
   conv=>whnf
   refine callv_data w1 ?_
   conv=>whnf
   refine callv_data w4 ?_
   conv=>whnf
   refine callv_data w5 ?_
   conv=>whnf
   refine safe_intro (by kernel_rfl) ?_
   conv=>whnf
   exact ⟨⟨rfl,rfl,rfl,trivial⟩,trivial⟩
theorem cmp_mk(r s:RD):cmpI r.val s.val=cmpZ (iv r.neg r.num*dv s.den) (iv s.neg s.num*dv r.den):=cmp_val r s
set_option maxHeartbeats 2000000 in
theorem rcmp_r(r s:RD)(hr:Sz r)(hs:Sz s):Fun Tryz.prog 148 [rdD r,rdD s] [i64 (cmpI r.val s.val)] :=by
 obtain ⟨r1,r2⟩:=hr
 obtain ⟨s1,s2⟩:=hs
 rw [cmp_mk]
 have b1:=small_bd (r:=r)
 have b2:=small_bd (r:=s)
 have t1:=rsm_t r
 have t2:=rsm_t s
 have f1:=rsm_f r
 have f2:=rsm_f s
 have q1:=rparts_c r (by omega) (by omega)
 have q2:=rparts_c s (by omega) (by omega)
 have z1:=iv_sz r
 have z2:=iv_sz s
 have z3:=dv_sz r
 have z4:=dv_sz s
 have d1:=dv_pos r.den
 have d2:=dv_pos s.den
 generalize iv r.neg r.num=x at*
 generalize iv s.neg s.num=y at*
 generalize dv r.den=a at*
 generalize dv s.den=b at*
 have m1:=nb_mul_sz x.natAbs b
 have m2:=nb_mul_sz y.natAbs a
 have w1:=rmul_z x (b:Int) (by omega) (by rw [zcast];omega)
 have w2:=rmul_z y (a:Int) (by omega) (by rw [zcast];omega)
 have w3:=rcmp_z (x*(b:Int)) (y*(a:Int))
 refine fun_of_go (fun t=>false) mixed tOk Tryz.func148 rfl rfl ?_
 conv=>whnf
 by_cases hA:r.num.size≤3∧r.den.size≤3
 ·refine call_data rfl rfl (t1 hA.1 hA.2) ?_
  conv=>whnf
  by_cases hB:s.num.size≤3∧s.den.size≤3
  ·refine call_data rfl rfl (t2 hB.1 hB.2) ?_
   conv=>whnf
   obtain ⟨i1,i2,i3,i4⟩:=b1 hA.1 hA.2
   obtain ⟨j1,j2,j3,j4⟩:=b2 hB.1 hB.2
   have k1:=pbd (x:=x) (y:=(b:Int)) (by omega) (by omega)
   have k2:=pbd (x:=y) (y:=(a:Int)) (by omega) (by omega)
   refine sd_d (by omega) ?_
   conv=>whnf
   refine sd_d (by omega) ?_
   conv=>whnf
   unfold cmpZ
   refine cond_d (fun g=> ?_) (fun g=> ?_)
   ·conv=>whnf
    refine ⟨?_,trivial⟩
    conv=>whnf
    rw [if_pos g]
   ·conv=>whnf
    refine sd_d (by omega) ?_
    conv=>whnf
    refine sd_d (by omega) ?_
    conv=>whnf
    refine cond_d (fun g2=> ?_) (fun g2=> ?_)
    ·conv=>whnf
     refine ⟨?_,trivial⟩
     conv=>whnf
     rw [if_neg g,if_pos (by omega)]
    ·conv=>whnf
     refine ⟨?_,trivial⟩
     conv=>whnf
     rw [if_neg g,if_neg (by omega)]
  ·refine call_data rfl rfl (f2 hB) ?_
   conv=>whnf
   refine call_data rfl rfl q1 ?_
   conv=>whnf
   refine call_data rfl rfl q2 ?_
   conv=>whnf
   refine callv_data w1 ?_
   conv=>whnf
   refine callv_data w2 ?_
   conv=>whnf
   refine callv_data w3 ?_
   conv=>whnf
   refine safe_intro (by kernel_rfl) ?_
   conv=>whnf
   exact ⟨rfl,trivial⟩
 ·refine call_data rfl rfl (f1 hA) ?_
  conv=>whnf
  by_cases hB:s.num.size≤3∧s.den.size≤3
  ·refine call_data rfl rfl (t2 hB.1 hB.2) ?_
   conv=>whnf
   refine call_data rfl rfl q1 ?_
   conv=>whnf
   refine call_data rfl rfl q2 ?_
   conv=>whnf
   refine callv_data w1 ?_
   conv=>whnf
   refine callv_data w2 ?_
   conv=>whnf
   refine callv_data w3 ?_
   conv=>whnf
   refine safe_intro (by kernel_rfl) ?_
   conv=>whnf
   exact ⟨rfl,trivial⟩
  ·refine call_data rfl rfl (f2 hB) ?_
   conv=>whnf
   refine call_data rfl rfl q1 ?_
   conv=>whnf
   refine call_data rfl rfl q2 ?_
   conv=>whnf
   refine callv_data w1 ?_
   conv=>whnf
   refine callv_data w2 ?_
   conv=>whnf
   refine callv_data w3 ?_
   conv=>whnf
   refine safe_intro (by kernel_rfl) ?_
   conv=>whnf
   exact ⟨rfl,trivial⟩
theorem neg_val(s:RD):(⟨!s.neg,s.num,s.den⟩:RD).val= -s.val:=by
 rw [val_eq,val_eq,Rat.neg_mkRat]
 congr 1
 unfold sg;cases s.neg<;>simp
theorem rsub_r(r s:RD)(hr:Sz r)(hs:Sz s):Fun Tryz.prog 110 [rdD r,rdD s] [ratD (r.val-s.val)] :=by
 have e:r.val+(⟨!s.neg,s.num,s.den⟩:RD).val=r.val-s.val:=by rw [neg_val,Rat.sub_eq_add_neg]
 refine fun_of_go (fun t=>t==3) mixed tOk Tryz.func110 rfl rfl ?_
 conv=>whnf
 refine call_eq rfl rfl (radd_r r ⟨!s.neg,s.num,s.den⟩ hr hs) (by simp only [bnot_eq];rfl) ?_
 conv=>whnf
 rw [e]
 exact ⟨⟨rfl,rfl,rfl,trivial⟩,trivial⟩
theorem rsign_r(r:RD)(hr:Sz r):Fun Tryz.prog 114 [rdD r] [i64 (sgnI r.val)] :=by
 have h0:Sz ⟨false,⟨#[]⟩,⟨#[]⟩⟩:=⟨by decide,by decide⟩
 have c:=rcmp_r r ⟨false,⟨#[]⟩,⟨#[]⟩⟩ hr h0
 have e:cmpI r.val (⟨false,⟨#[]⟩,⟨#[]⟩⟩:RD).val=sgnI r.val:=by
  have:(⟨false,⟨#[]⟩,⟨#[]⟩⟩:RD).val=0:=by decide
  rw [this,cmpI_eq,sgnI_eq];rfl
 rw [e] at c
 refine fun_of_go (fun t=>false) mixed tOk Tryz.func114 rfl rfl ?_
 conv=>whnf
 refine call_data rfl rfl c ?_
 conv=>whnf
 exact ⟨rfl,trivial⟩
theorem rnormal_r(r:RD)(hr:Sz r):Fun Tryz.prog 197 [rdD r] [ratD r.val] :=by
 obtain ⟨r1,r2⟩:=hr
 have z1:=iv_sz r
 have z3:=dv_sz r
 have d1:=dv_pos r.den
 refine fun_of_go (fun t=>false) mixed tOk Tryz.func197 rfl rfl ?_
 conv=>whnf
 by_cases hA:r.num.size≤3∧r.den.size≤3
 ·obtain ⟨i1,i2,i3,i4⟩:=small_bd hA.1 hA.2
  refine call_data rfl rfl (rsm_t r hA.1 hA.2) ?_
  conv=>whnf
  have pk:=rpack_c (iv r.neg r.num) (dv r.den:Nat) (by omega) (by omega)
  rw [Int.toNat_natCast] at pk
  refine call_data rfl rfl pk ?_
  conv=>whnf
  exact ⟨⟨rfl,rfl,rfl,trivial⟩,trivial⟩
 ·refine call_data rfl rfl (rsm_f r hA) ?_
  conv=>whnf
  refine call_data rfl rfl (rparts_c r (by omega) (by omega)) ?_
  conv=>whnf
  refine call_data rfl rfl (rreduce_c (iv r.neg r.num) (dv r.den) (by omega) (by omega) (by omega)) ?_
  conv=>whnf
  exact ⟨⟨rfl,rfl,rfl,trivial⟩,trivial⟩
theorem eqDs_qr(q:Rat)(r:RD):eqDs [.v (.bool (rneg q)),.v (.string (rnum q)),.v (.string (rden q))] [.v (.bool r.neg),.v (.string r.num),.v (.string r.den)] =decide (canon q=r):=by
 unfold rneg rnum rden;exact eqDs_rd (canon q) r
theorem rcheck_r(r:RD)(hr:Sz r):Fun Tryz.prog 108 [rdD r] [i64 (okN r)] :=by
 refine fun_of_go (fun t=>false) mixed tOk Tryz.func108 rfl rfl ?_
 conv=>whnf
 refine callv_data (rnormal_r r hr) ?_
 conv=>whnf
 refine safe_intro (by kernel_rfl) ?_
 conv=>whnf
 have e:eqDs [D.v (.bool (rneg r.val)),.v (.string (rnum r.val)),.v (.string (rden r.val))] (List.take ti27.cells (List.drop 0 (rdD r).cells))=decide (canon r.val=r):=eqDs_qr _ r
 rw [e]
 refine cond_b (fun h=> ?_) (fun h=> ?_)
 ·have h1: ¬canon r.val=r:=by simpa using h
  conv=>whnf
  refine ⟨?_,trivial⟩
  conv=>whnf
  unfold okN;rw [if_neg h1]
 ·have h1:canon r.val=r:=by simpa using h
  conv=>whnf
  refine ⟨?_,trivial⟩
  conv=>whnf
  unfold okN;rw [if_pos h1]
theorem rofr_c(n:Int)(h: -9223372036854775808<n∧n≤9223372036854775807):Fun Tryz.prog 115 [i64 n] [ratD (n:Rat)] :=by
 have c1:=rof_c n h
 have c2:=rof_c 1 (by omega)
 have hz:n.natAbs<256^8:=by have:(256:Nat)^8=18446744073709551616:=rfl;omega
 have hs:=nbl_length_le hz
 have c3:=rreduce_c n 1 (by rw [nb_size];omega) (by decide) (by omega)
 have e:mkRat n 1=(n:Rat):=by rw [Rat.mkRat_eq_div];show (n:Rat)/((1:Nat):Rat)=n;rw [Rat.natCast_ofNat];grind
 rw [e] at c3
 refine fun_of_go (fun t=>false) mixed tOk Tryz.func115 rfl rfl ?_
 conv=>whnf
 refine call_data rfl rfl c1 ?_
 conv=>whnf
 refine call_data rfl rfl c2 ?_
 conv=>whnf
 refine call_data rfl rfl c3 ?_
 conv=>whnf
 exact ⟨⟨rfl,rfl,rfl,trivial⟩,trivial⟩
theorem rratio_c(n:Int)(d:Nat)(h: -9223372036854775808<n∧n≤9223372036854775807)(hd:0<d∧d≤9223372036854775807):Fun Tryz.prog 202 [i64 n,i64 (d:Int)] [ratD (mkRat n d),i64 0] :=by
 have c1:=rof_c n h
 have c2:=rof_c (d:Int) (by omega)
 have hz:n.natAbs<256^8:=by have:(256:Nat)^8=18446744073709551616:=rfl;omega
 have hy:d<256^8:=by have:(256:Nat)^8=18446744073709551616:=rfl;omega
 have hs:=nbl_length_le hz
 have ht:=nbl_length_le hy
 have c3:=rreduce_c n d (by rw [nb_size];omega) (by rw [nb_size];omega) (by omega)
 have c4:=rcmp_z (d:Int) 0
 rw [zD_zero,show cmpZ (d:Int) 0=1 by unfold cmpZ;rw [if_neg (by omega),if_pos (by omega)]] at c4
 have c5:Fun Tryz.prog 279 [zD n,zD (d:Int)] [ratD (mkRat n d),i64 0] :=by
  refine fun_of_go (fun t=>false) mixed tOk Tryz.func279 rfl rfl ?_
  conv=>whnf
  refine call_data rfl rfl c4 ?_
  conv=>whnf
  refine cond_df (by omega) ?_
  conv=>whnf
  refine call_data rfl rfl c3 ?_
  conv=>whnf
  exact ⟨⟨rfl,rfl,rfl,trivial⟩,rfl,trivial⟩
 refine fun_of_go (fun t=>false) mixed tOk Tryz.func202 rfl rfl ?_
 conv=>whnf
 refine call_data rfl rfl c1 ?_
 conv=>whnf
 refine call_data rfl rfl c2 ?_
 conv=>whnf
 refine call_data rfl rfl c5 ?_
 conv=>whnf
 exact ⟨⟨rfl,rfl,rfl,trivial⟩,rfl,trivial⟩
theorem inv_rd(S:Int)(t:Nat)(hS:S≠0):(⟨ng S,nb t,nb S.natAbs⟩:RD).val=(mkRat S t)⁻¹:=by
 rw [val_eq]
 have e1:dv (nb S.natAbs)=S.natAbs:=by unfold dv;rw [bv_nb,if_neg (by omega)]
 simp only
 rw [e1,bv_nb, ←Rat.divInt_ofNat, ←Rat.divInt_ofNat,Rat.inv_divInt,ng_eq]
 unfold sg
 by_cases h:S<0
 ·rw [if_pos (by simpa using h),show (S.natAbs:Int)= -S by omega,Rat.neg_divInt_neg]
 ·rw [if_neg (by simpa using h),show (S.natAbs:Int)=S by omega]
theorem rquo_r(r s:RD)(hr:Sz r)(hs:Sz s)(h0:s.val≠0):Fun Tryz.prog 89 [rdD r,rdD s] [ratD (r.val/s.val),i64 0] :=by
 have hS:iv s.neg s.num≠0:=by
  intro h
  apply h0
  rw [val_mk,h,Rat.zero_mkRat]
 have z1:=iv_sz s
 have z2:=dv_sz s
 have c1:=rparts_c s (by have:=hs.1;omega) (by have:=hs.2;omega)
 have e:r.val/s.val=r.val*(⟨ng (iv s.neg s.num),nb (dv s.den),nb (iv s.neg s.num).natAbs⟩:RD).val:=by
  rw [inv_rd _ _ hS,Rat.div_def];rfl
 have hz:Sz ⟨ng (iv s.neg s.num),nb (dv s.den),nb (iv s.neg s.num).natAbs⟩:=⟨by have:=hs.2;simp only;omega,by have:=hs.1;simp only;omega⟩
 have c2:=rmul_r r _ hr hz
 rw [←e] at c2
 generalize iv s.neg s.num=S at*
 generalize dv s.den=t at*
 rw [zD_nat] at c1
 generalize r.val/s.val=Q at*
 refine fun_of_go (fun t=>false) mixed tOk Tryz.func89 rfl rfl ?_
 conv=>whnf
 refine call_data rfl rfl c1 ?_
 conv=>whnf
 refine cond_bf (by rw [nb_ne];simpa using hS) ?_
 conv=>whnf
 refine call_data rfl rfl c2 ?_
 conv=>whnf
 exact ⟨⟨rfl,rfl,rfl,trivial⟩,rfl,trivial⟩
theorem radd_q{p q:Rat}(hp:Q p)(hq:Q q):Fun Tryz.prog 87 [ratD p,ratD q] [ratD (p+q)] :=by
 have:=radd_r (canon p) (canon q) hp.sz hq.sz
 rwa [val_canon,val_canon, ←ratD_eq, ←ratD_eq] at this
theorem rmul_q{p q:Rat}(hp:Q p)(hq:Q q):Fun Tryz.prog 181 [ratD p,ratD q] [ratD (p*q)] :=by
 have:=rmul_r (canon p) (canon q) hp.sz hq.sz
 rwa [val_canon,val_canon, ←ratD_eq, ←ratD_eq] at this
theorem rsub_q{p q:Rat}(hp:Q p)(hq:Q q):Fun Tryz.prog 110 [ratD p,ratD q] [ratD (p-q)] :=by
 have:=rsub_r (canon p) (canon q) hp.sz hq.sz
 rwa [val_canon,val_canon, ←ratD_eq, ←ratD_eq] at this
theorem rcmp_q{p q:Rat}(hp:Q p)(hq:Q q):Fun Tryz.prog 148 [ratD p,ratD q] [i64 (cmpI p q)] :=by
 have:=rcmp_r (canon p) (canon q) hp.sz hq.sz
 rwa [val_canon,val_canon, ←ratD_eq, ←ratD_eq] at this
theorem rsign_q{p:Rat}(hp:Q p):Fun Tryz.prog 114 [ratD p] [i64 (sgnI p)] :=by
 have:=rsign_r (canon p) hp.sz
 rwa [val_canon, ←ratD_eq] at this
theorem rquo_q{p q:Rat}(hp:Q p)(hq:Q q)(h0:q≠0):Fun Tryz.prog 89 [ratD p,ratD q] [ratD (p/q),i64 0] :=by
 have:=rquo_r (canon p) (canon q) hp.sz hq.sz (by rw [val_canon];exact h0)
 rwa [val_canon,val_canon, ←ratD_eq, ←ratD_eq] at this
theorem rratio_q(n:Int)(d:Nat)(h: -9223372036854775808<n∧n≤9223372036854775807)(hd:0<d∧d≤9223372036854775807):Fun Tryz.prog 202 [i64 n,i64 (d:Int)] [ratD (Rat.divInt n d),i64 0] :=by
 have:=rratio_c n d h hd
 rwa [←Rat.divInt_ofNat] at this
theorem rvcheck_c(r s:RD)(hr:Sz r)(hs:Sz s):Fun Tryz.prog 73 [ptR r s] [i64 (okP r s)] :=by
 refine fun_of_go (fun t=>false) mixed tOk Tryz.func73 rfl rfl ?_
 conv=>whnf
 refine call_data rfl rfl (rcheck_r r hr) ?_
 conv=>whnf
 refine cond_ne (fun h=> ?_) (fun h=> ?_)
 ·conv=>whnf
  refine ⟨?_,trivial⟩
  conv=>whnf
  unfold okP;rw [if_neg (fun h'=>h (okN_zero.2 h'.1))]
 ·conv=>whnf
  refine call_data rfl rfl (rcheck_r s hs) ?_
  conv=>whnf
  refine cond_ne (fun h2=> ?_) (fun h2=> ?_)
  ·conv=>whnf
   refine ⟨?_,trivial⟩
   conv=>whnf
   unfold okP;rw [if_neg (fun h'=>h2 (okN_zero.2 h'.2))]
  ·conv=>whnf
   refine ⟨?_,trivial⟩
   conv=>whnf
   exact (okP_zero.2 ⟨okN_zero.1 h,okN_zero.1 h2⟩).symm
theorem fsub_c{x y u v:Rat}(hx:Q x)(hy:Q y)(hu:Q u)(hv:Q v):Fun Tryz.prog 149 [ptD x y,ptD u v] [ptD (x-u) (y-v)] :=by
 refine fun_of_go (fun t=>false) mixed tOk Tryz.func149 rfl rfl ?_
 conv=>whnf
 refine callv_data (rsub_q hx hu) ?_
 conv=>whnf
 refine callv_data (rsub_q hy hv) ?_
 conv=>whnf
 refine safe_intro (by kernel_rfl) ?_
 conv=>whnf
 exact ⟨⟨rfl,rfl,rfl,rfl,rfl,rfl,trivial⟩,trivial⟩
theorem fadd_c{x y u v:Rat}(hx:Q x)(hy:Q y)(hu:Q u)(hv:Q v):Fun Tryz.prog 183 [ptD x y,ptD u v] [ptD (x+u) (y+v)] :=by
 refine fun_of_go (fun t=>false) mixed tOk Tryz.func183 rfl rfl ?_
 conv=>whnf
 refine callv_data (radd_q hx hu) ?_
 conv=>whnf
 refine callv_data (radd_q hy hv) ?_
 conv=>whnf
 refine safe_intro (by kernel_rfl) ?_
 conv=>whnf
 exact ⟨⟨rfl,rfl,rfl,rfl,rfl,rfl,trivial⟩,trivial⟩
theorem fscale_c{x y k:Rat}(hx:Q x)(hy:Q y)(hk:Q k):Fun Tryz.prog 198 [ptD x y,ratD k] [ptD (x*k) (y*k)] :=by
 refine fun_of_go (fun t=>false) mixed tOk Tryz.func198 rfl rfl ?_
 conv=>whnf
 refine callv_data (rmul_q hx hk) ?_
 conv=>whnf
 refine callv_data (rmul_q hy hk) ?_
 conv=>whnf
 refine safe_intro (by kernel_rfl) ?_
 conv=>whnf
 exact ⟨⟨rfl,rfl,rfl,rfl,rfl,rfl,trivial⟩,trivial⟩
theorem fat_c{x y u v k:Rat}(hx:Q x)(hy:Q y)(hu:Q u)(hv:Q v)(hk:Q k)(h1:Q (u-x))(h2:Q (v-y))(h3:Q ((u-x)*k))(h4:Q ((v-y)*k)):
  Fun Tryz.prog 111 [ptD x y,ptD u v,ratD k] [ptD (x+(u-x)*k) (y+(v-y)*k)] :=by
 refine fun_of_go (fun t=>false) mixed tOk Tryz.func111 rfl rfl ?_
 conv=>whnf
 refine callv_data (fsub_c hu hv hx hy) ?_
 conv=>whnf
 refine callv_data (fscale_c h1 h2 hk) ?_
 conv=>whnf
 refine callv_data (fadd_c hx hy h3 h4) ?_
 conv=>whnf
 refine safe_intro (by kernel_rfl) ?_
 conv=>whnf
 exact ⟨⟨rfl,rfl,rfl,rfl,rfl,rfl,trivial⟩,trivial⟩
theorem fcmp_c{x y u v:Rat}(hx:Q x)(hy:Q y)(hu:Q u)(hv:Q v):Fun Tryz.prog 164 [ptD x y,ptD u v] [i64 (if cmpI x u=0 then cmpI y v else cmpI x u)] :=by
 refine fun_of_go (fun t=>false) mixed tOk Tryz.func164 rfl rfl ?_
 conv=>whnf
 refine call_data rfl rfl (rcmp_q hx hu) ?_
 conv=>whnf
 refine cond_ne (fun h=> ?_) (fun h=> ?_)
 ·conv=>whnf
  refine ⟨?_,trivial⟩
  conv=>whnf
  rw [if_neg h]
 ·conv=>whnf
  refine call_data rfl rfl (rcmp_q hy hv) ?_
  conv=>whnf
  refine ⟨?_,trivial⟩
  conv=>whnf
  rw [if_pos h]
theorem fscheck_c{x y u v:Rat}(hx:Q x)(hy:Q y)(hu:Q u)(hv:Q v):Fun Tryz.prog 147 [quD x y u v] [i64 (sgE x y u v)] :=by
 have e:(if cmpI x u=0 then cmpI y v else cmpI x u)=0↔x=u∧y=v:=by
  split
  ·rename_i h;rw [cmpI_zero] at h;rw [cmpI_zero];exact ⟨fun h2=>⟨h,h2⟩,fun h2=>h2.2⟩
  ·rename_i h;exact ⟨fun h2=>absurd h2 h,fun h2=>absurd (cmpI_zero.2 h2.1) h⟩
 refine fun_of_go (fun t=>false) mixed tOk Tryz.func147 rfl rfl ?_
 conv=>whnf
 refine call_data rfl rfl (fcmp_c hx hy hu hv) ?_
 conv=>whnf
 refine cond_e (fun h=> ?_) (fun h=> ?_)
 ·conv=>whnf
  refine ⟨?_,trivial⟩
  conv=>whnf
  unfold sgE;rw [if_pos (e.1 h)]
 ·conv=>whnf
  refine ⟨?_,trivial⟩
  conv=>whnf
  unfold sgE;rw [if_neg (fun hh=>h (e.2 hh))]
end Go.Nv
end
