import Derived.Test.YtdjbkccoofcnjaaGreatNvC3
import Derived.Test.YtdjbkccoofcnjaaGreatNvP1
set_option linter.all false
set_option maxRecDepth 100000
section
namespace Go.Nv
open Go.Proofs Nw
def gcSt(n m:Bool)(s t:ByteArray)(x y:Nat):St:=⟨fr 28 [(4,.ptr 0 0 0),(5,.d (.l (us (ln x)))),(6,.d (.l (us (ln y))))], [.box 99 [.d (.v (.bool false)),.d (.v (.string ⟨#[]⟩))]]⟩
theorem gcd_c(n m:Bool)(s t:ByteArray)(hs:s.size<500000000000)(ht:t.size<500000000000):Fun Tryz.prog 135 [intD n s,intD m t] [zD (Nat.gcd (bv s) (bv t):Nat)] :=by
 have h1:=ln_size s (by omega)
 have h2:=ln_size t (by omega)
 refine fun_of_go (fun t=>t==4) mixed tOk Tryz.func135 rfl rfl ?_
 conv=>whnf
 refine callv_data (load_c s (by omega)) ?_
 conv=>whnf
 refine callv_data (load_c t (by omega)) ?_
 conv=>whnf
 refine safe_intro (by kernel_rfl) ?_
 conv=>whnf
 refine loop_intro (fun t=>t==4) (fun p:Nat×Nat=>gcSt n m s t p.1 p.2) (fun p=>Nat.gcd p.1 p.2=Nat.gcd (bv s) (bv t)∧(ln p.1).length<500000000000∧(ln p.2).length<500000000000) (fun p=>p.2) (bv s,bv t) mixed tOk ⟨rfl,by show (ln (bv s)).length<_;omega,by show (ln (bv t)).length<_;omega⟩ ?_ ?_
 conv=>whnf
 ·refine weak_r ?_ ?_<;>repeat' (first|exact trivial|exact rfl|apply And.intro)
 ·rintro ⟨x,y⟩ ⟨e,hx,hy⟩
  simp only at e hx hy
  have ly:=us_length (ln y)
  conv=>whnf
  refine cond_d (fun h3=> ?_) (fun h3=> ?_)
  ·conv=>whnf
   have hy0:0<y:=by
    rcases Nat.eq_zero_or_pos y with h|h
    ·subst h;simp [ln_zero,us] at h3
    ·exact h
   refine call_data rfl rfl (divide_c x y hy0 (by omega) (by omega)) ?_
   conv=>whnf
   refine ⟨(y,x%y),⟨?_,by omega, ?_⟩,Nat.mod_lt _ hy0, ?_⟩
   ·rw [←e];exact (Nat.gcd_comm _ _).trans (by rw [Nat.gcd_comm x y,Nat.gcd_rec y x,Nat.gcd_comm])
   ·have:=ln_len_mono (Nat.le_of_lt (Nat.mod_lt x hy0));show (ln (x%y)).length<_;omega
   ·refine weak_r ?_ ?_<;>repeat' (first|exact trivial|exact rfl|apply And.intro)
  ·conv=>whnf
   have h3: ¬((us (ln y)).length:Int)>0:=h3
   have hy0:y=0:=ln_len_eq_zero.1 (by omega)
   subst hy0
   refine call_data rfl rfl (pack_ln false x (by show (ln x).length<_;omega)) ?_
   conv=>whnf
   have e2:sg false x=((Nat.gcd (bv s) (bv t):Nat):Int):=by rw [←e];simp [sg]
   rw [e2]
   refine ⟨?_,trivial⟩
   conv=>whnf
   exact ⟨rfl,rfl,trivial⟩
theorem fdiv_uniq{a b q r:Int}(h:a=b*q+r)(hr:0≤r∧r<b∨b<r∧r≤0):Int.fdiv a b=q∧Int.fmod a b=r:=by
 have key: ∀{a b q r:Int},a=b*q+r→0≤r→r<b→Int.fdiv a b=q:=fun {a b q r} h h1 h2=>by
  rw [Int.fdiv_eq_ediv_of_nonneg _ (by omega)]
  exact (Int.ediv_eq_iff_of_pos (by omega)).2 ⟨by rw [Int.mul_comm];omega,by rw [Int.mul_comm q b];omega⟩
 have hq:Int.fdiv a b=q:=by
  rcases hr with ⟨h1,h2⟩|⟨h1,h2⟩
  ·exact key h h1 h2
  ·rw [←Int.neg_fdiv_neg]
   exact key (r:= -r) (by rw [h,Int.neg_add,Int.neg_mul]) (by omega) (by omega)
 refine ⟨hq, ?_⟩
 have:=Int.mul_fdiv_add_fmod a b
 rw [hq] at this
 omega
theorem fdiv_same(n:Bool)(A B:Nat)(hB:B≠0):Int.fdiv (sg n A) (sg n B)=sg false (A/B)∧Int.fmod (sg n A) (sg n B)=sg n (A%B):=by
 have h1:=Nat.div_add_mod A B
 have h2:=Nat.mod_lt A (Nat.pos_of_ne_zero hB)
 have h3:((B*(A/B):Nat):Int)=(B:Int)*((A/B:Nat):Int):=Int.natCast_mul _ _
 generalize A/B=q at*
 generalize A%B=r at*
 refine fdiv_uniq ?_ ?_
 ·unfold sg
  cases n<;>simp only [Bool.false_eq_true,if_false,if_true,Int.neg_mul] <;>omega
 ·unfold sg
  cases n<;>simp only [Bool.false_eq_true,if_false,if_true] <;>omega
theorem fdiv_diff0(n m:Bool)(hnm:n≠m)(A B:Nat)(hB:B≠0)(hr:A%B=0):Int.fdiv (sg n A) (sg m B)=sg true (A/B)∧Int.fmod (sg n A) (sg m B)=0:=by
 have h1:=Nat.div_add_mod A B
 have h3:((B*(A/B):Nat):Int)=(B:Int)*((A/B:Nat):Int):=Int.natCast_mul _ _
 generalize A/B=q at*
 rw [hr] at h1
 refine fdiv_uniq ?_ ?_
 ·unfold sg
  cases n<;>cases m<;>simp at hnm<;>simp only [Bool.false_eq_true,if_false,if_true,Int.neg_mul,Int.mul_neg] <;>omega
 ·unfold sg
  cases n<;>cases m<;>simp at hnm<;>simp only [Bool.false_eq_true,if_false,if_true] <;>omega
theorem fdiv_diff(n m:Bool)(hnm:n≠m)(A B:Nat)(hB:B≠0)(hr:A%B≠0):Int.fdiv (sg n A) (sg m B)=sg true (A/B)-1∧Int.fmod (sg n A) (sg m B)=sg n (A%B)+sg m B:=by
 have h1:=Nat.div_add_mod A B
 have h2:=Nat.mod_lt A (Nat.pos_of_ne_zero hB)
 have h3:((B*(A/B):Nat):Int)=(B:Int)*((A/B:Nat):Int):=Int.natCast_mul _ _
 generalize A/B=q at*
 generalize A%B=r at*
 refine fdiv_uniq ?_ ?_
 ·unfold sg
  cases n<;>cases m<;>simp at hnm<;>simp only [Bool.false_eq_true,if_false,if_true,Int.neg_mul,Int.mul_neg,Int.mul_sub] <;>omega
 ·unfold sg
  cases n<;>cases m<;>simp at hnm<;>simp only [Bool.false_eq_true,if_false,if_true] <;>omega
theorem sg_z(z:Int):sg (ng z) (bv (nb z.natAbs))=z:=by
 rw [ng_eq,bv_nb]
 unfold sg
 by_cases h:z<0<;>simp [h] <;>omega
theorem nb_sz{a k:Nat}(h:a<256^k):(nb a).size≤k:=by rw [nb_size];exact nbl_length_le h
theorem div_c(n m:Bool)(s t:ByteArray)(hs:s.size<500000000000)(ht:t.size<500000000000)(h0:bv t≠0):
  Fun Tryz.prog 136 [intD n s,intD m t] [zD (Int.fdiv (sg n (bv s)) (sg m (bv t))),zD (Int.fmod (sg n (bv s)) (sg m (bv t))),i64 0] :=by
 have h1:=ln_size s (by omega)
 have h2:=ln_size t (by omega)
 have lt:=us_length (ln (bv t))
 have ht0:(ln (bv t)).length≠0:=fun h=>h0 (ln_len_eq_zero.1 h)
 refine fun_of_go (fun t=>t==4||t==5||t==10||t==11) mixed tOk Tryz.func136 rfl rfl ?_
 conv=>whnf
 refine call_data rfl rfl (load_c t (by omega)) ?_
 conv=>whnf
 refine cond_e (fun h=>by omega) (fun h=> ?_)
 conv=>whnf
 refine call_data rfl rfl (load_c s (by omega)) ?_
 conv=>whnf
 have hq:=ln_len_mono (Nat.div_le_self (bv s) (bv t))
 have hr:=ln_len_mono (Nat.mod_le (bv s) (bv t))
 refine call_data rfl rfl (divide_c _ _ (by omega) (by omega) (by omega)) ?_
 conv=>whnf
 refine callv_data (pack_ln _ _ (by omega)) ?_
 conv=>whnf
 refine callv_data (pack_ln n _ (by omega)) ?_
 conv=>whnf
 refine safe_intro (by kernel_rfl) ?_
 conv=>whnf
 have hA:bv s<256^s.size:=bvl_lt _
 have hq':(sg (n !=m) (bv s/bv t)).natAbs<256^s.size:=by rw [sg_abs];exact Nat.lt_of_le_of_lt (Nat.div_le_self _ _) hA
 have hr':(sg n (bv s%bv t)).natAbs<256^s.size:=by rw [sg_abs];exact Nat.lt_of_le_of_lt (Nat.mod_le _ _) hA
 have sq:=nb_sz hq'
 have sr:=nb_sz hr'
 generalize hz:sg (n !=m) (bv s/bv t)=z at*
 generalize hy:sg n (bv s%bv t)=y at*
 refine cond_b (fun h5=> ?_) (fun h5=> ?_)
 ·conv=>whnf
  have hr0:bv s%bv t≠0:=by
   intro h
   have hy0:y=0:=by rw [←hy,h];cases n<;>rfl
   rw [hy0,show (0:Int).natAbs=0 from rfl,nb_zero,byt_beq] at h5
   simp [emp] at h5
  refine cond_b (fun h6=> ?_) (fun h6=> ?_)
  ·conv=>whnf
   refine callv_data (of_c 1 (by omega)) ?_
   conv=>whnf
   refine callv_data (sub_c _ _ _ _ (by have e:sg (bz (!(n==m))) (bv s/bv t)=z:=by {rw [bz_eq];exact hz};rw [e];omega) (by decide)) ?_
   conv=>whnf
   refine callv_data (add_c _ _ _ _ (by omega) ht) ?_
   conv=>whnf
   refine safe_intro (by kernel_rfl) ?_
   conv=>whnf
   refine safe_intro (by kernel_rfl) ?_
   conv=>whnf
   obtain ⟨e1,e2⟩:=fdiv_diff n m (by simpa using h6) (bv s) (bv t) h0 hr0
   have e3:sg (bz (!(n==m))) (bv s/bv t)=sg true (bv s/bv t):=by rw [bz_eq,h6]
   rw [e3,e1,e2,sg_z,sg_z,sg_z, ←hy]
   exact ⟨⟨rfl,rfl,trivial⟩,⟨rfl,rfl,trivial⟩,rfl,trivial⟩
  ·conv=>whnf
   refine safe_intro (by kernel_rfl) ?_
   conv=>whnf
   have hnm:n=m:=by simpa using h6
   obtain ⟨e1,e2⟩:=fdiv_same n (bv s) (bv t) h0
   have e3:sg (bz (!(n==m))) (bv s/bv t)=sg false (bv s/bv t):=by rw [bz_eq,h6]
   subst hnm
   rw [e3,e1,e2, ←hy]
   exact ⟨⟨rfl,rfl,trivial⟩,⟨rfl,rfl,trivial⟩,rfl,trivial⟩
 ·conv=>whnf
  refine safe_intro (by kernel_rfl) ?_
  conv=>whnf
  have hr0:bv s%bv t=0:=by
   have h7:nb y.natAbs=emp:=by
    have:(nb y.natAbs==(⟨#[]⟩:ByteArray))=true:=by simpa using h5
    rw [byt_beq] at this
    exact of_decide_eq_true this
   have:=nb_eq_emp.1 h7
   rw [←hy,sg_abs] at this
   exact this
  have hy0:y=0:=by rw [←hy,hr0];cases n<;>rfl
  have e:Int.fdiv (sg n (bv s)) (sg m (bv t))=sg (bz (!(n==m))) (bv s/bv t)∧Int.fmod (sg n (bv s)) (sg m (bv t))=0:=by
   rw [bz_eq]
   by_cases hnm:n=m
   ·subst hnm
    obtain ⟨e1,e2⟩:=fdiv_same n (bv s) (bv t) h0
    rw [e1,e2,hr0]
    refine ⟨by simp,by cases n<;>rfl⟩
   ·obtain ⟨e1,e2⟩:=fdiv_diff0 n m hnm (bv s) (bv t) h0 hr0
    refine ⟨?_,e2⟩
    rw [e1,show (n==m)=false by simpa using hnm];rfl
  rw [e.1,e.2,hy0]
  exact ⟨⟨rfl,rfl,trivial⟩,⟨rfl,rfl,trivial⟩,rfl,trivial⟩
abbrev rdD(r:RD):D:= .a [.v (.bool r.neg),.v (.string r.num),.v (.string r.den)]
@[irreducible] def rneg(q:Rat):Bool:=(canon q).neg
@[irreducible] def rnum(q:Rat):ByteArray:=(canon q).num
@[irreducible] def rden(q:Rat):ByteArray:=(canon q).den
abbrev ratD(q:Rat):D:= .a [.v (.bool (rneg q)),.v (.string (rnum q)),.v (.string (rden q))]
theorem ratD_eq(q:Rat):ratD q=rdD (canon q):=by unfold ratD rdD rneg rnum rden;rfl
@[irreducible] def isZ(z k:Int):Bool:=decide (z=k)
theorem isZ_eq(z k:Int):isZ z k=decide (z=k):=by unfold isZ;rfl
theorem integer_c(n:Bool)(s:ByteArray):Fun Tryz.prog 184 [.v (.bool n),.v (.string s)] [intD n s] :=by
 refine fun_of_go (fun t=>t==4) mixed tOk Tryz.func184 rfl rfl ?_
 conv=>whnf
 exact ⟨⟨rfl,rfl,trivial⟩,trivial⟩
theorem cmpZ_is(z k:Int):(cmpZ z k==0)=isZ z k:=by
 rw [isZ_eq]
 unfold cmpZ
 by_cases h:z=k
 ·subst h;simp
 ·by_cases h2:z<k
  ·simp [h,h2]
  ·have h3:k<z:=by omega
   simp [h,h2,h3]
theorem is_c(n:Bool)(s:ByteArray)(k:Int)(hs:s.size<1000000000000)(hk: -9223372036854775808≤k∧k≤9223372036854775807):Fun Tryz.prog 134 [intD n s,i64 k] [.v (.bool (isZ (sg n (bv s)) k))] :=by
 refine fun_of_go (fun t=>false) mixed tOk Tryz.func134 rfl rfl ?_
 conv=>whnf
 refine callv_data (of_c k hk) ?_
 conv=>whnf
 have hz:(nb k.natAbs).size≤8:=nb_sz (by have:(256:Nat)^8=18446744073709551616:=rfl;omega)
 refine callv_data (compareI_c _ _ _ _ hs (by omega)) ?_
 conv=>whnf
 refine safe_intro (by kernel_rfl) ?_
 conv=>whnf
 refine ⟨?_,trivial⟩
 conv=>whnf
 rw [sg_z,bz_eq]
 exact cmpZ_is _ _
@[irreducible] def dn(t:ByteArray):ByteArray:=if bv t=0 then nb 1 else t
theorem bv_dn(t:ByteArray):bv (dn t)=dv t:=by
 unfold dn dv
 split
 ·rw [bv_nb]
 ·rfl
theorem dn_size(t:ByteArray):(dn t).size≤t.size+1:=by
 unfold dn
 split
 ·have:=nb_sz (a:=1) (k:=1) (by decide);omega
 ·omega
abbrev frD(n:Bool)(s:ByteArray)(m:Bool)(t:ByteArray):D:= .a [.v (.bool n),.v (.string s),.v (.bool m),.v (.string t)]
abbrev ofD(r:RD):D:=frD r.neg r.num false (dn r.den)
theorem of_c2(r:RD)(hs:r.den.size<1000000000000):Fun Tryz.prog 95 [rdD r] [ofD r] :=by
 refine fun_of_go (fun t=>t==2||t==3) mixed tOk Tryz.func95 rfl rfl ?_
 conv=>whnf
 refine callv_data (integer_c _ _) ?_
 conv=>whnf
 refine callv_data (integer_c _ _) ?_
 conv=>whnf
 refine safe_intro (by kernel_rfl) ?_
 conv=>whnf
 refine call_data rfl rfl (is_c false r.den 0 hs (by omega)) ?_
 conv=>whnf
 rw [isZ_eq]
 refine cond_intro (fun h=> ?_) (fun h=> ?_)
 ·conv=>whnf
  refine call_data rfl rfl (of_c 1 (by omega)) ?_
  conv=>whnf
  have h0:bv r.den=0:=by have:=of_decide_eq_true h;simpa [sg] using this
  have e:dn r.den=nb (Int.natAbs 1):=by unfold dn;rw [if_pos h0];rfl
  refine ⟨?_,trivial⟩
  conv=>whnf
  exact ⟨rfl,rfl,by rw [ng_eq];rfl,e.symm,trivial⟩
 ·conv=>whnf
  have h0:bv r.den≠0:=by have:=of_decide_eq_false h;simpa [sg] using this
  have e:dn r.den=r.den:=by unfold dn;rw [if_neg h0]
  refine ⟨?_,trivial⟩
  conv=>whnf
  exact ⟨rfl,rfl,rfl,e.symm,trivial⟩
theorem mkRat_parts(z:Int){d:Nat}(hd:d≠0):(mkRat z d).num=z/(Nat.gcd z.natAbs d:Nat)∧(mkRat z d).den=d/Nat.gcd z.natAbs d:=by
 rw [←Rat.normalize_eq_mkRat hd,Rat.num_normalize,Rat.den_normalize]
 exact ⟨rfl,rfl⟩
theorem number_c(n:Bool)(s:ByteArray)(m:Bool)(t:ByteArray)(hm:m=false)(ht:bv t≠0)(hs:s.size<500000000000)(hts:t.size<500000000000):
  Fun Tryz.prog 62 [frD n s m t] [ratD (mkRat (sg n (bv s)) (bv t))] :=by
 subst hm
 obtain ⟨p1,p2⟩:=mkRat_parts (sg n (bv s)) ht
 rw [sg_abs] at p1 p2
 rw [ratD_eq]
 have hg:Nat.gcd (bv s) (bv t)≠0:=fun h=>ht (Nat.gcd_eq_zero_iff.1 h).2
 generalize hgg:Nat.gcd (bv s) (bv t)=g at*
 have hgt:g≤bv t:=by rw [←hgg];exact Nat.le_of_dvd (by omega) (Nat.gcd_dvd_right _ _)
 have hB:bv t<256^t.size:=bvl_lt _
 have sg1:(nb (Int.natAbs (g:Int))).size≤t.size:=nb_sz (by omega)
 refine fun_of_go (fun t=>t==2||t==3||t==4||t==5||t==7||t==8||t==10) mixed tOk Tryz.func62 rfl rfl ?_
 conv=>whnf
 refine call_data rfl rfl (is_c n s 0 (by omega) (by omega)) ?_
 conv=>whnf
 rw [isZ_eq]
 refine cond_intro (fun h=> ?_) (fun h=> ?_)
 ·conv=>whnf
  have h0:sg n (bv s)=0:=of_decide_eq_true h
  rw [h0]
  have e:canon (mkRat 0 (bv t))=⟨false,emp,emp⟩:=by rw [Rat.zero_mkRat];decide
  rw [e]
  refine ⟨?_,trivial⟩
  conv=>whnf
  exact ⟨rfl,rfl,rfl,trivial⟩
 ·conv=>whnf
  have h0:sg n (bv s)≠0:=of_decide_eq_false h
  refine call_eq rfl rfl (gcd_c n false s t hs hts) rfl ?_
  conv=>whnf
  rw [hgg]
  refine call_data rfl rfl (div_c _ _ _ _ hs (by omega) (by rw [bv_nb];exact_mod_cast hg)) ?_
  conv=>whnf
  refine call_data rfl rfl (div_c false _ t _ hts (by omega) (by rw [bv_nb];exact_mod_cast hg)) ?_
  conv=>whnf
  have q1:(sg n (bv s)).fdiv (sg (ng (g:Int)) (bv (nb (g:Int).natAbs)))=(mkRat (sg n (bv s)) (bv t)).num:=by
   rw [sg_z,p1,Int.fdiv_eq_ediv_of_nonneg _ (by omega)]
  have q2:(sg false (bv t)).fdiv (sg (ng (g:Int)) (bv (nb (g:Int).natAbs)))=((mkRat (sg n (bv s)) (bv t)).den:Int):=by
   rw [sg_z,p2,Int.fdiv_eq_ediv_of_nonneg _ (by omega)];rfl
  rw [q1,q2]
  have hden:(mkRat (sg n (bv s)) (bv t)).den≤bv t:=by rw [p2];exact Nat.div_le_self _ _
  generalize mkRat (sg n (bv s)) (bv t)=q at*
  refine call_data rfl rfl (is_c _ _ 1 (by have:=nb_sz (a:=(q.den:Int).natAbs) (k:=t.size) (by omega);omega) (by omega)) ?_
  conv=>whnf
  rw [isZ_eq,sg_z]
  refine cond_nb (fun h1=> ?_) (fun h1=> ?_)
  ·conv=>whnf
   have h2:q.den≠1:=by have:=of_decide_eq_false h1;omega
   refine ⟨?_,trivial⟩
   conv=>whnf
   unfold canon
   rw [if_neg h2]
   exact ⟨ng_eq _,rfl,rfl,trivial⟩
  ·conv=>whnf
   have h2:q.den=1:=by have:=of_decide_eq_true h1;omega
   refine ⟨?_,trivial⟩
   conv=>whnf
   unfold canon
   rw [if_pos h2]
   exact ⟨ng_eq _,rfl,rfl,trivial⟩
theorem digits_c(s:ByteArray)(hs:s.size≤7):Fun Tryz.prog 230 [.v (.string s)] [i64 (bv s)] :=by
 refine fun_of_go (fun t=>false) mixed tOk Tryz.func230 rfl rfl ?_
 conv=>whnf
 refine loop_intro (fun t=>false) (fun i:Nat=>⟨fr 19 [(0,.d (.v (.string s))),(3,.d (i64 (pre s i))),(6,.d (i64 s.size)),(7,.d (i64 i))], []⟩) (fun i=>i≤s.size) (fun i=>s.size-i) 0 mixed tOk (Nat.zero_le _) ?_ ?_
 ·refine weak_r ?_ ?_<;>repeat' (first|exact trivial|exact rfl|apply And.intro)
 ·intro i hi
  conv=>whnf
  refine cond_d (fun h2=> ?_) (fun h2=> ?_)<;>conv=>whnf
  ·obtain ⟨p1,p2⟩:=pre_step s i (by omega)
   have hp:=p54 (s:=s) (i:=i) (by omega) hs
   have h8:=sh8 (pre s i)
   refine sd_dd (by omega) (by omega) ?_
   conv=>whnf
   refine sd_d (by omega) ?_
   conv=>whnf
   generalize s.data.toList[i]'_=b at p1 p2
   have hb:=b.toNat_lt
   refine sd_d (by rw [p1];omega) ?_
   conv=>whnf
   refine sd_d (by omega) ?_
   conv=>whnf
   refine ⟨i+1,by omega,by omega, ?_⟩
   refine weak_r ?_ ?_<;>repeat' (first|exact trivial|exact rfl|apply And.intro)
   conv=>whnf
   rw [p1,p2,h8]
   exact or_i64 _ _ (by omega) hp
  ·have hi2:i=s.size:=by omega
   refine ⟨?_,trivial⟩
   conv=>whnf
   rw [hi2,pre_all]
@[irreducible] def smB(r:RD):Bool:=decide (r.num.size≤3∧r.den.size≤3)
theorem smB_eq(r:RD):smB r=decide (r.num.size≤3∧r.den.size≤3):=by unfold smB;rfl
@[irreducible] def smN(r:RD):Int:=if smB r then sg r.neg (bv r.num) else 0
@[irreducible] def smD(r:RD):Int:=if smB r then (dv r.den:Int) else 0
theorem bv3{s:ByteArray}(h:s.size≤3):bv s<16777216:=by
 have h1:bv s<256^s.size:=bvl_lt _
 have h2:256^s.size≤256^3:=Nat.pow_le_pow_right (by omega) h
 have h3:(256:Nat)^3=16777216:=rfl
 omega
theorem machine_c(r:RD):Fun Tryz.prog 137 [rdD r] [i64 (smN r),i64 (smD r),.v (.bool (smB r))] :=by
 refine fun_of_go (fun t=>false) mixed tOk Tryz.func137 rfl rfl ?_
 conv=>whnf
 refine cond_d (fun h1=> ?_) (fun h1=> ?_)<;>conv=>whnf
 ·have hb:smB r=false:=by rw [smB_eq];simp;omega
  refine ⟨?_, ?_, ?_,trivial⟩
  ·conv=>whnf
   unfold smN;rw [hb];rfl
  ·conv=>whnf
   unfold smD;rw [hb];rfl
  ·conv=>whnf
   exact hb.symm
 ·refine cond_d (fun h2=> ?_) (fun h2=> ?_)<;>conv=>whnf
  ·have hb:smB r=false:=by rw [smB_eq];simp;omega
   refine ⟨?_, ?_, ?_,trivial⟩
   ·conv=>whnf
    unfold smN;rw [hb];rfl
   ·conv=>whnf
    unfold smD;rw [hb];rfl
   ·conv=>whnf
    exact hb.symm
  ·have hb:smB r=true:=by rw [smB_eq];simp;omega
   have b1:=bv3 (s:=r.num) (by omega)
   have b2:=bv3 (s:=r.den) (by omega)
   refine callv_data (digits_c r.num (by omega)) ?_
   conv=>whnf
   refine callv_data (digits_c r.den (by omega)) ?_
   conv=>whnf
   refine safe_intro (by kernel_rfl) ?_
   conv=>whnf
   have e:(if ((bv r.den:Nat):Int)<1 then (1:Int) else ((bv r.den:Nat):Int))=smD r:=by
    unfold smD;rw [hb,if_pos rfl];unfold dv;split<;>split<;>omega
   have e1: ∀n,r.neg=n→sg n (bv r.num)=smN r:=fun n hn=>by
    unfold smN;rw [hb,if_pos rfl,hn]
   refine cond_intro (fun h3=> ?_) (fun h3=> ?_)
   ·conv=>whnf
    refine sd_d (by omega) ?_
    conv=>whnf
    refine ⟨?_,e,hb.symm,trivial⟩
    conv=>whnf
    rw [←e1 _ h3];simp [sg]
   ·conv=>whnf
    refine ⟨?_,e,hb.symm,trivial⟩
    conv=>whnf
    rw [←e1 _ h3];simp [sg]
def tl:Nat→Nat→List UInt8
 |0,_=> []
 |k+1,n=>tl k (n/256)++ [UInt8.ofNat (n%256)]
theorem nbl_tl: ∀(k n:Nat),n<256^k→(k≠0→256^(k-1)≤n)→nbl n=tl k n
 |0,n,h,_=>by
  have:n=0:=by simpa using h
  subst this;rw [nbl_zero];rfl
 |k+1,n,h,h2=>by
  have h0:n≠0:=by
   have:=h2 (by omega)
   have h3:0<256^(k+1-1):=Nat.pow_pos (by omega)
   omega
  rw [nbl_pos h0,tl,nbl_tl k (n/256) (by rw [Nat.div_lt_iff_lt_mul (by omega), ←Nat.pow_succ];exact h) (fun hk=>by
   rw [Nat.le_div_iff_mul_le (by omega), ←Nat.pow_succ]
   have:=h2 (by omega)
   rwa [show (k-1).succ=k+1-1 by omega])]
def tD(k n j:Nat):D:= .v (.int .u8 (if j<k then ((n/256^j%256:Nat):Int) else 0))
def tSt(k n:Nat):St:=⟨fr 18 [(0,.d (i64 ((n/256^k:Nat):Int))),(3,.ptr 0 0 0),(4,.d (i64 (8-(k:Int))))], [.box 246 [.d (tD k n 7),.d (tD k n 6),.d (tD k n 5),.d (tD k n 4),.d (tD k n 3),.d (tD k n 2),.d (tD k n 1),.d (tD k n 0)]]⟩
theorem tl_end(k n:Nat)(hk:k≤8):subL [tD k n 7,tD k n 6,tD k n 5,tD k n 4,tD k n 3,tD k n 2,tD k n 1,tD k n 0] (8-(k:Int)).toNat 8=by8 (tl k n):=by
 have hkk:k=0∨k=1∨k=2∨k=3∨k=4∨k=5∨k=6∨k=7∨k=8:=by omega
 rcases hkk with rfl|rfl|rfl|rfl|rfl|rfl|rfl|rfl|rfl<;>simp [subL,tl,by8,tD,Nat.div_div_eq_div_mul]
theorem tl_text{k n:Nat}(hk:k≤8)(h:n<256^k)(h2:k≠0→256^(k-1)≤n):
  bytS (subL [tD k n 7,tD k n 6,tD k n 5,tD k n 4,tD k n 3,tD k n 2,tD k n 1,tD k n 0] (8-(k:Int)).toNat 8)=nb n:=by
 rw [tl_end k n hk,by8_str, ←nbl_tl k n h h2];rfl
theorem sh8r(n:Nat):Int.fdiv (n:Int) (2^min (Int.toNat 8) IntKind.i64.bits)=((n/256:Nat):Int):=by
 have:((2:Int)^min (Int.toNat 8) IntKind.i64.bits)=256:=by decide
 rw [this,Int.fdiv_eq_ediv_of_nonneg _ (by decide)];rfl
theorem text_c(n:Nat)(hn:n<9223372036854775808):Fun Tryz.prog 138 [i64 n] [.v (.string (nb n))] :=by
 refine fun_of_go (fun t=>t==3) mixed tOk Tryz.func138 rfl rfl ?_
 conv=>whnf
 refine loop_intro (fun t=>t==3) (fun k:Nat=>tSt k n) (fun k=>k≤8∧(k≠0→256^(k-1)≤n)) (fun k=>8-k) 0 mixed tOk ⟨by omega,by omega⟩ ?_ ?_
 conv=>whnf
 ·refine weak_r ?_ ?_<;>repeat' (first|exact trivial|exact rfl|apply And.intro)
  conv=>whnf
  rw [Nat.pow_zero,Nat.div_one]
 ·rintro k ⟨hk,hk2⟩
  have hkk:k=0∨k=1∨k=2∨k=3∨k=4∨k=5∨k=6∨k=7∨k=8:=by omega
  have hlt: ∀k:Nat,¬((n/256^k:Nat):Int)>0→n<256^k:=fun k h=>by
   have h0:n/256^k=0:=by generalize n/256^k=q at h;omega
   exact (Nat.div_eq_zero_iff.1 h0).resolve_left (Nat.ne_of_gt (Nat.pow_pos (by omega)))
  have hge: ∀k:Nat,((n/256^k:Nat):Int)>0→256^k≤n:=fun k h=>by
   rcases Nat.lt_or_ge n (256^k) with h1|h1
   ·rw [Nat.div_eq_of_lt h1] at h;omega
   ·exact h1
  have hsh: ∀k:Nat,Int.fdiv ((n/256^k:Nat):Int) (2^min (Int.toNat 8) IntKind.i64.bits)=((n/256^(k+1):Nat):Int):=fun k=>by
   rw [sh8r,Nat.div_div_eq_div_mul, ←Nat.pow_succ]
  rcases hkk with rfl|rfl|rfl|rfl|rfl|rfl|rfl|rfl|rfl
  ·conv=>whnf
   refine cond_d (fun h=> ?_) (fun h=> ?_)
   ·conv=>whnf
    refine sd_d (by omega) ?_
    conv=>whnf
    refine sd_d (by omega) ?_
    conv=>whnf
    refine sd_d (by omega) ?_
    conv=>whnf
    refine ⟨0+1,⟨by omega,fun _=>hge 0 h⟩,by omega, ?_⟩
    refine weak_r ?_ ?_<;>repeat' (first|exact trivial|exact rfl|apply And.intro)
    all_goals conv=>whnf
    exact hsh 0
   ·conv=>whnf
    refine sd_d (by simp only [maxLen];omega) ?_
    conv=>whnf
    refine sd_intro (by rfl) ?_
    conv=>whnf
    refine ⟨?_,trivial⟩
    conv=>whnf
    exact tl_text (k:=0) hk (hlt 0 h) hk2
  ·conv=>whnf
   refine cond_d (fun h=> ?_) (fun h=> ?_)
   ·conv=>whnf
    refine sd_d (by omega) ?_
    conv=>whnf
    refine sd_d (by omega) ?_
    conv=>whnf
    refine sd_d (by omega) ?_
    conv=>whnf
    refine ⟨1+1,⟨by omega,fun _=>hge 1 h⟩,by omega, ?_⟩
    refine weak_r ?_ ?_<;>repeat' (first|exact trivial|exact rfl|apply And.intro)
    all_goals conv=>whnf
    exact hsh 1
   ·conv=>whnf
    refine sd_d (by simp only [maxLen];omega) ?_
    conv=>whnf
    refine sd_intro (by rfl) ?_
    conv=>whnf
    refine ⟨?_,trivial⟩
    conv=>whnf
    exact tl_text (k:=1) hk (hlt 1 h) hk2
  ·conv=>whnf
   refine cond_d (fun h=> ?_) (fun h=> ?_)
   ·conv=>whnf
    refine sd_d (by omega) ?_
    conv=>whnf
    refine sd_d (by omega) ?_
    conv=>whnf
    refine sd_d (by omega) ?_
    conv=>whnf
    refine ⟨2+1,⟨by omega,fun _=>hge 2 h⟩,by omega, ?_⟩
    refine weak_r ?_ ?_<;>repeat' (first|exact trivial|exact rfl|apply And.intro)
    all_goals conv=>whnf
    exact hsh 2
   ·conv=>whnf
    refine sd_d (by simp only [maxLen];omega) ?_
    conv=>whnf
    refine sd_intro (by rfl) ?_
    conv=>whnf
    refine ⟨?_,trivial⟩
    conv=>whnf
    exact tl_text (k:=2) hk (hlt 2 h) hk2
  ·conv=>whnf
   refine cond_d (fun h=> ?_) (fun h=> ?_)
   ·conv=>whnf
    refine sd_d (by omega) ?_
    conv=>whnf
    refine sd_d (by omega) ?_
    conv=>whnf
    refine sd_d (by omega) ?_
    conv=>whnf
    refine ⟨3+1,⟨by omega,fun _=>hge 3 h⟩,by omega, ?_⟩
    refine weak_r ?_ ?_<;>repeat' (first|exact trivial|exact rfl|apply And.intro)
    all_goals conv=>whnf
    exact hsh 3
   ·conv=>whnf
    refine sd_d (by simp only [maxLen];omega) ?_
    conv=>whnf
    refine sd_intro (by rfl) ?_
    conv=>whnf
    refine ⟨?_,trivial⟩
    conv=>whnf
    exact tl_text (k:=3) hk (hlt 3 h) hk2
  ·conv=>whnf
   refine cond_d (fun h=> ?_) (fun h=> ?_)
   ·conv=>whnf
    refine sd_d (by omega) ?_
    conv=>whnf
    refine sd_d (by omega) ?_
    conv=>whnf
    refine sd_d (by omega) ?_
    conv=>whnf
    refine ⟨4+1,⟨by omega,fun _=>hge 4 h⟩,by omega, ?_⟩
    refine weak_r ?_ ?_<;>repeat' (first|exact trivial|exact rfl|apply And.intro)
    all_goals conv=>whnf
    exact hsh 4
   ·conv=>whnf
    refine sd_d (by simp only [maxLen];omega) ?_
    conv=>whnf
    refine sd_intro (by rfl) ?_
    conv=>whnf
    refine ⟨?_,trivial⟩
    conv=>whnf
    exact tl_text (k:=4) hk (hlt 4 h) hk2
  ·conv=>whnf
   refine cond_d (fun h=> ?_) (fun h=> ?_)
   ·conv=>whnf
    refine sd_d (by omega) ?_
    conv=>whnf
    refine sd_d (by omega) ?_
    conv=>whnf
    refine sd_d (by omega) ?_
    conv=>whnf
    refine ⟨5+1,⟨by omega,fun _=>hge 5 h⟩,by omega, ?_⟩
    refine weak_r ?_ ?_<;>repeat' (first|exact trivial|exact rfl|apply And.intro)
    all_goals conv=>whnf
    exact hsh 5
   ·conv=>whnf
    refine sd_d (by simp only [maxLen];omega) ?_
    conv=>whnf
    refine sd_intro (by rfl) ?_
    conv=>whnf
    refine ⟨?_,trivial⟩
    conv=>whnf
    exact tl_text (k:=5) hk (hlt 5 h) hk2
  ·conv=>whnf
   refine cond_d (fun h=> ?_) (fun h=> ?_)
   ·conv=>whnf
    refine sd_d (by omega) ?_
    conv=>whnf
    refine sd_d (by omega) ?_
    conv=>whnf
    refine sd_d (by omega) ?_
    conv=>whnf
    refine ⟨6+1,⟨by omega,fun _=>hge 6 h⟩,by omega, ?_⟩
    refine weak_r ?_ ?_<;>repeat' (first|exact trivial|exact rfl|apply And.intro)
    all_goals conv=>whnf
    exact hsh 6
   ·conv=>whnf
    refine sd_d (by simp only [maxLen];omega) ?_
    conv=>whnf
    refine sd_intro (by rfl) ?_
    conv=>whnf
    refine ⟨?_,trivial⟩
    conv=>whnf
    exact tl_text (k:=6) hk (hlt 6 h) hk2
  ·conv=>whnf
   refine cond_d (fun h=> ?_) (fun h=> ?_)
   ·conv=>whnf
    refine sd_d (by omega) ?_
    conv=>whnf
    refine sd_d (by omega) ?_
    conv=>whnf
    refine sd_d (by omega) ?_
    conv=>whnf
    refine ⟨7+1,⟨by omega,fun _=>hge 7 h⟩,by omega, ?_⟩
    refine weak_r ?_ ?_<;>repeat' (first|exact trivial|exact rfl|apply And.intro)
    all_goals conv=>whnf
    exact hsh 7
   ·conv=>whnf
    refine sd_d (by simp only [maxLen];omega) ?_
    conv=>whnf
    refine sd_intro (by rfl) ?_
    conv=>whnf
    refine ⟨?_,trivial⟩
    conv=>whnf
    exact tl_text (k:=7) hk (hlt 7 h) hk2
  ·conv=>whnf
   refine cond_d (fun h=> ?_) (fun h=> ?_)
   ·conv=>whnf
    exact absurd h (by have:n/256^8=0:=Nat.div_eq_of_lt (Nat.lt_of_lt_of_le hn (by decide));omega)
   ·conv=>whnf
    refine sd_d (by simp only [maxLen];omega) ?_
    conv=>whnf
    refine sd_intro (by rfl) ?_
    conv=>whnf
    refine ⟨?_,trivial⟩
    conv=>whnf
    exact tl_text (k:=8) hk (hlt 8 h) hk2
theorem rneg_eq(q:Rat):rneg q=decide (q.num<0):=by unfold rneg canon;rfl
theorem rnum_eq(q:Rat):rnum q=nb q.num.natAbs:=by unfold rnum canon;rfl
theorem rden_eq(q:Rat):rden q=if q.den=1 then emp else nb q.den:=by unfold rden canon;rfl
def raSt(n d:Int)(x y:Int):St:=⟨fr 43 [(0,.d (i64 n)),(1,.d (i64 d)),(4,.ptr 0 0 0),(5,.d (i64 x)),(6,.d (i64 y))], [.box 27 [.d (.v (.bool false)),.d (.v (.string ⟨#[]⟩)),.d (.v (.string ⟨#[]⟩))]]⟩
theorem ratio_c(n d:Int)(hn: -4000000000000000000<n∧n<4000000000000000000)(hd:0<d∧d<4000000000000000000):Fun Tryz.prog 65 [i64 n,i64 d] [ratD (mkRat n d.toNat)] :=by
 refine fun_of_go (fun t=>t==4||t==8) mixed tOk Tryz.func65 rfl rfl ?_
 conv=>whnf
 refine loop_intro (fun t=>t==4||t==8) (fun p:Int×Int=>raSt n d p.1 p.2) (fun p=>Nat.gcd p.1.natAbs p.2.natAbs=Nat.gcd n.natAbs d.natAbs∧p.1.natAbs<4000000000000000000∧p.2.natAbs<4000000000000000000) (fun p=>p.2.natAbs) (n,d) mixed tOk ⟨rfl,by show n.natAbs<_;omega,by show d.natAbs<_;omega⟩ ?_ ?_
 conv=>whnf
 ·refine weak_r ?_ ?_<;>repeat' (first|exact trivial|exact rfl|apply And.intro)
 ·rintro ⟨x,y⟩ ⟨e,hx,hy⟩
  simp only at e hx hy
  show go _ _ _ _ (raSt n d x y) _
  conv=>whnf
  refine cond_ne (fun h=> ?_) (fun h=> ?_)
  ·conv=>whnf
   refine sd_d h ?_
   conv=>whnf
   refine safe_intro (by kernel_rfl) ?_
   conv=>whnf
   have e1:(x.tmod y).natAbs=x.natAbs%y.natAbs:=Int.natAbs_tmod x y
   have e2:=Nat.mod_lt x.natAbs (show 0<y.natAbs by omega)
   refine ⟨(y,x.tmod y),⟨?_,by show y.natAbs<_;omega,by show (x.tmod y).natAbs<_;omega⟩,by show (x.tmod y).natAbs<y.natAbs;omega, ?_⟩
   ·show Nat.gcd y.natAbs (x.tmod y).natAbs=_
    rw [e1, ←e];exact (Nat.gcd_comm _ _).trans ((Nat.gcd_rec y.natAbs x.natAbs).symm.trans (Nat.gcd_comm _ _))
   ·refine weak_r ?_ ?_<;>repeat' (first|exact trivial|exact rfl|apply And.intro)
  ·subst h
   have hG:x.natAbs=Nat.gcd n.natAbs d.natAbs:=by rw [←e];simp
   have hdd:(d.toNat:Int)=d:=by omega
   have hdn:d.natAbs=d.toNat:=by omega
   rw [hdn] at hG
   have hd0:d.toNat≠0:=by omega
   have hG0:Nat.gcd n.natAbs d.toNat≠0:=fun h=>hd0 (Nat.gcd_eq_zero_iff.1 h).2
   obtain ⟨p1,p2⟩:=mkRat_parts n hd0
   have hgd:Nat.gcd n.natAbs d.toNat≤d.toNat:=Nat.le_of_dvd (by omega) (Nat.gcd_dvd_right _ _)
   have hdg0:Nat.gcd n.natAbs d.toNat∣d.toNat:=Nat.gcd_dvd_right _ _
   have hdv:Nat.gcd n.natAbs d.toNat∣n.natAbs:=Nat.gcd_dvd_left _ _
   generalize Nat.gcd n.natAbs d.toNat=G at*
   conv=>whnf
   refine sd_d (by omega) ?_
   conv=>whnf
   have hmx: ∀z:Int,(if z< -z then-z else z)=(z.natAbs:Int):=fun z=>by split<;>omega
   have hmx2: ∀z:Int,(if z<0-z then 0-z else z)=(z.natAbs:Int):=fun z=>by split<;>omega
   refine cond_e (fun h0=> ?_) (fun h0=> ?_)
   ·conv=>whnf
    refine ⟨?_,trivial⟩
    subst h0
    rw [ratD_eq]
    conv=>whnf
    have ec:canon (mkRat 0 d.toNat)=⟨false,emp,emp⟩:=by rw [Rat.zero_mkRat];decide
    rw [ec]
    exact ⟨rfl,rfl,rfl,trivial⟩
   ·conv=>whnf
    refine sd_d (by omega) ?_
    conv=>whnf
    have etd: ∀a b:Nat,Int.tdiv (a:Int) (b:Int)=((a/b:Nat):Int):=fun a b=>by
     rw [Int.tdiv_eq_ediv_of_nonneg (by omega)];rfl
    have hq:=Nat.div_le_self n.natAbs G
    have hq2:=Nat.div_le_self d.toNat G
    rw [hmx2,hmx2,hG,etd]
    obtain ⟨u,hu⟩: ∃u,u=n.natAbs/G:=⟨_,rfl⟩
    rw [←hu] at hq ⊢
    refine sd_dd (by omega) (by omega) ?_
    conv=>whnf
    refine call_data rfl rfl (text_c u (by omega)) ?_
    conv=>whnf
    have hdvI:(G:Int)∣n:=Int.ofNat_dvd_left.2 hdv
    have e1:nb u=rnum (mkRat n d.toNat):=by
     rw [rnum_eq,p1,Int.natAbs_ediv_of_dvd hdvI,hu];rfl
    have e2:decide (n<0)=rneg (mkRat n d.toNat):=by
     rw [rneg_eq,p1]
     by_cases hneg:n<0
     ·simp [hneg,Int.ediv_neg_of_neg_of_pos hneg (show (0:Int)<G by omega)]
     ·have:=Int.ediv_nonneg (show 0≤n by omega) (show (0:Int)≤G by omega)
      simp [hneg];omega
    obtain ⟨v,hv⟩: ∃v,v=d.toNat/G:=⟨_,rfl⟩
    have hdt:d.tdiv (G:Int)=(v:Int):=by rw [←hdd,etd,hv]
    rw [←hv] at hq2 p2
    refine cond_ne (fun h1=> ?_) (fun h1=> ?_)
    ·conv=>whnf
     rw [hdt]
     refine sd_dd (by omega) (by omega) ?_
     conv=>whnf
     refine call_data rfl rfl (text_c v (by omega)) ?_
     conv=>whnf
     have h2:v≠1:=by
      intro h;apply h1
      have:=Nat.div_mul_cancel hdg0
      rw [←hv,h] at this
      omega
     have e3:nb v=rden (mkRat n d.toNat):=by
      rw [rden_eq,p2,if_neg h2]
     refine ⟨?_,trivial⟩
     conv=>whnf
     exact ⟨by rw [bz_eq,e2];exact rfl,e1,e3,trivial⟩
    ·conv=>whnf
     have h2:v=1:=by
      rw [hv]
      have:d.toNat=G:=by rw [h1] at hdd;omega
      rw [this];exact Nat.div_self (by omega)
     have e3:emp=rden (mkRat n d.toNat):=by
      rw [rden_eq,p2,if_pos h2]
     refine ⟨?_,trivial⟩
     conv=>whnf
     exact ⟨by rw [bz_eq,e2];exact rfl,e1,e3,trivial⟩
def Sz(r:RD):Prop:=r.num.size<100000000000∧r.den.size<100000000000
theorem sz_small{r:RD}(h:smB r=true):r.num.size≤3∧r.den.size≤3:=by rw [smB_eq] at h;exact of_decide_eq_true h
theorem smN_yes{r:RD}(h:smB r=true):smN r=sg r.neg (bv r.num):=by unfold smN;rw [h];rfl
theorem smD_yes{r:RD}(h:smB r=true):smD r=(dv r.den:Int):=by unfold smD;rw [h];rfl
theorem smN_bd{r:RD}(h:smB r=true): -16777216<smN r∧smN r<16777216:=by
 rw [smN_yes h]
 have:=bv3 (sz_small h).1
 unfold sg;split<;>omega
theorem smD_bd{r:RD}(h:smB r=true):0<smD r∧smD r<16777216:=by
 rw [smD_yes h]
 have:=bv3 (sz_small h).2
 unfold dv;split<;>omega
theorem both_c(r s:RD)(f g:FuncId)(q:Rat)(hr:Sz r)(hs:Sz s)
  (h1:smB r=true→smB s=true→Fun Tryz.prog f [i64 (smN r),i64 (smD r),i64 (smN s),i64 (smD s)] [ratD q]) (h2:Fun Tryz.prog g [ofD r,ofD s] [ratD q]):
  Fun Tryz.prog 63 [rdD r,rdD s,.f f [],.f g []] [ratD q] :=by
 refine fun_of_go (fun t=>t==8) mixed tOk Tryz.func63 rfl rfl ?_
 conv=>whnf
 refine call_data rfl rfl (machine_c r) ?_
 conv=>whnf
 refine call_data rfl rfl (machine_c s) ?_
 conv=>whnf
 refine cond_intro (fun h3=> ?_) (fun h3=> ?_)
 ·conv=>whnf
  refine cond_intro (fun h4=> ?_) (fun h4=> ?_)
  ·conv=>whnf
   refine call_data rfl rfl (h1 h3 h4) ?_
   conv=>whnf
   refine ⟨?_,trivial⟩
   conv=>whnf
   exact ⟨rfl,rfl,rfl,trivial⟩
  ·conv=>whnf
   refine callv_data (of_c2 r (by have:=hr.2;omega)) ?_
   conv=>whnf
   refine callv_data (of_c2 s (by have:=hs.2;omega)) ?_
   conv=>whnf
   refine callv_data h2 ?_
   conv=>whnf
   refine safe_intro (by kernel_rfl) ?_
   conv=>whnf
   refine ⟨?_,trivial⟩
   conv=>whnf
   exact ⟨rfl,rfl,rfl,trivial⟩
 ·conv=>whnf
  refine callv_data (of_c2 r (by have:=hr.2;omega)) ?_
  conv=>whnf
  refine callv_data (of_c2 s (by have:=hs.2;omega)) ?_
  conv=>whnf
  refine callv_data h2 ?_
  conv=>whnf
  refine safe_intro (by kernel_rfl) ?_
  conv=>whnf
  refine ⟨?_,trivial⟩
  conv=>whnf
  exact ⟨rfl,rfl,rfl,trivial⟩
theorem bothI_c(r s:RD)(f g:FuncId)(q:Int)(hr:Sz r)(hs:Sz s)
  (h1:smB r=true→smB s=true→Fun Tryz.prog f [i64 (smN r),i64 (smD r),i64 (smN s),i64 (smD s)] [i64 q]) (h2:Fun Tryz.prog g [ofD r,ofD s] [i64 q]):
  Fun Tryz.prog 97 [rdD r,rdD s,.f f [],.f g []] [i64 q] :=by
 refine fun_of_go (fun t=>t==8) mixed tOk Tryz.func97 rfl rfl ?_
 conv=>whnf
 refine call_data rfl rfl (machine_c r) ?_
 conv=>whnf
 refine call_data rfl rfl (machine_c s) ?_
 conv=>whnf
 refine cond_intro (fun h3=> ?_) (fun h3=> ?_)
 ·conv=>whnf
  refine cond_intro (fun h4=> ?_) (fun h4=> ?_)
  ·conv=>whnf
   refine call_data rfl rfl (h1 h3 h4) ?_
   conv=>whnf
   refine ⟨?_,trivial⟩
   conv=>whnf
  ·conv=>whnf
   refine callv_data (of_c2 r (by have:=hr.2;omega)) ?_
   conv=>whnf
   refine callv_data (of_c2 s (by have:=hs.2;omega)) ?_
   conv=>whnf
   refine callv_data h2 ?_
   conv=>whnf
   refine safe_intro (by kernel_rfl) ?_
   conv=>whnf
   refine ⟨?_,trivial⟩
   conv=>whnf
 ·conv=>whnf
  refine callv_data (of_c2 r (by have:=hr.2;omega)) ?_
  conv=>whnf
  refine callv_data (of_c2 s (by have:=hs.2;omega)) ?_
  conv=>whnf
  refine callv_data h2 ?_
  conv=>whnf
  refine safe_intro (by kernel_rfl) ?_
  conv=>whnf
  refine ⟨?_,trivial⟩
  conv=>whnf
theorem mul_bd{a b:Int}(ha: -16777216<a∧a<16777216)(hb: -16777216<b∧b<16777216): -281474976710656<a*b∧a*b<281474976710656:=by
 have h:(a*b).natAbs≤16777215*16777215:=by
  rw [Int.natAbs_mul]
  exact Nat.mul_le_mul (by omega) (by omega)
 omega
theorem mul_pos_bd{a b:Int}(ha:0<a∧a<16777216)(hb:0<b∧b<16777216):0<a*b∧a*b<281474976710656:=
 ⟨Int.mul_pos ha.1 hb.1,(mul_bd (by omega) (by omega)).2⟩
theorem add1_c(n d m e:Int)(hn: -16777216<n∧n<16777216)(hd:0<d∧d<16777216)(hm: -16777216<m∧m<16777216)(he:0<e∧e<16777216):
  Fun Tryz.prog 64 [i64 n,i64 d,i64 m,i64 e] [ratD (mkRat (n*e+m*d) (d*e).toNat)] :=by
 have b1:=mul_bd hn (show-16777216<e∧e<16777216 by omega)
 have b2:=mul_bd hm (show-16777216<d∧d<16777216 by omega)
 have b3:=mul_pos_bd hd he
 refine fun_of_go (fun t=>t==8) mixed tOk Tryz.func64 rfl rfl ?_
 conv=>whnf
 refine sd_d (by omega) ?_
 conv=>whnf
 refine sd_d (by omega) ?_
 conv=>whnf
 refine sd_d (by omega) ?_
 conv=>whnf
 refine sd_d (by omega) ?_
 conv=>whnf
 refine call_data rfl rfl (ratio_c (n*e+m*d) (d*e) (by omega) (by omega)) ?_
 conv=>whnf
 refine ⟨?_,trivial⟩
 conv=>whnf
 exact ⟨rfl,rfl,rfl,trivial⟩
theorem mul1_c(n d m e:Int)(hn: -16777216<n∧n<16777216)(hd:0<d∧d<16777216)(hm: -16777216<m∧m<16777216)(he:0<e∧e<16777216):
  Fun Tryz.prog 69 [i64 n,i64 d,i64 m,i64 e] [ratD (mkRat (n*m) (d*e).toNat)] :=by
 have b1:=mul_bd hn hm
 have b3:=mul_pos_bd hd he
 refine fun_of_go (fun t=>t==8) mixed tOk Tryz.func69 rfl rfl ?_
 conv=>whnf
 refine sd_d (by omega) ?_
 conv=>whnf
 refine sd_d (by omega) ?_
 conv=>whnf
 refine call_data rfl rfl (ratio_c (n*m) (d*e) (by omega) (by omega)) ?_
 conv=>whnf
 refine ⟨?_,trivial⟩
 conv=>whnf
 exact ⟨rfl,rfl,rfl,trivial⟩
theorem szZ_sg(n:Bool)(s:ByteArray):(sg n (bv s)).natAbs<256^s.size:=by rw [sg_abs];exact bvl_lt _
theorem szZ_mul{x y:Int}{a b:Nat}(hx:x.natAbs<256^a)(hy:y.natAbs<256^b):(x*y).natAbs<256^(a+b):=by
 rw [Int.natAbs_mul,Nat.pow_add]
 exact Nat.mul_lt_mul'' hx hy
theorem szZ_add{x y:Int}{a b:Nat}(hx:x.natAbs<256^a)(hy:y.natAbs<256^b):(x+y).natAbs<256^(a+b+1):=by
 have h1:=Nat.pow_le_pow_right (n:=256) (by omega) (show a≤a+b by omega)
 have h2:=Nat.pow_le_pow_right (n:=256) (by omega) (show b≤a+b by omega)
 have h3:=Int.natAbs_add_le x y
 rw [Nat.pow_succ];omega
theorem szZ_nb{x:Int}{a:Nat}(hx:x.natAbs<256^a):(nb x.natAbs).size≤a:=nb_sz hx
theorem number_z(Z D:Int)(k l:Nat)(hD:0<D)(hZk:Z.natAbs<256^k)(hDk:D.natAbs<256^l)(hk:k<500000000000)(hl:l<500000000000):
  Fun Tryz.prog 62 [frD (ng Z) (nb Z.natAbs) (ng D) (nb D.natAbs)] [ratD (mkRat Z D.toNat)] :=by
 have h:=number_c (ng Z) (nb Z.natAbs) (ng D) (nb D.natAbs) (by rw [ng_eq];simp;omega) (by rw [bv_nb];omega) (by have:=nb_sz hZk;omega) (by have:=nb_sz hDk;omega)
 rw [sg_z,bv_nb] at h
 rwa [show mkRat Z D.natAbs=mkRat Z D.toNat by rw [show D.natAbs=D.toNat by omega]] at h
theorem add2_c(r s:RD)(hr:Sz r)(hs:Sz s):Fun Tryz.prog 66 [ofD r,ofD s] [ratD (mkRat (sg r.neg (bv r.num)*dv s.den+sg s.neg (bv s.num)*dv r.den) (dv r.den*dv s.den))] :=by
 have z1:=dn_size r.den
 have z2:=dn_size s.den
 have e1:sg false (bv (dn r.den))=(dv r.den:Int):=by rw [bv_dn];rfl
 have e2:sg false (bv (dn s.den))=(dv s.den:Int):=by rw [bv_dn];rfl
 have k1:=szZ_sg r.neg r.num
 have k2:=szZ_sg s.neg s.num
 have k3:=szZ_sg false (dn r.den)
 have k4:=szZ_sg false (dn s.den)
 have m1:=szZ_mul k1 k4
 have m2:=szZ_mul k2 k3
 have m3:=szZ_mul k3 k4
 have m4:=szZ_add m1 m2
 have p1:=dv_pos r.den
 have p2:=dv_pos s.den
 obtain ⟨hr1,hr2⟩:=hr
 obtain ⟨hs1,hs2⟩:=hs
 refine fun_of_go (fun t=>t==4) mixed tOk Tryz.func66 rfl rfl ?_
 conv=>whnf
 refine callv_data (mul_c _ _ _ _ (by omega) (by omega)) ?_
 conv=>whnf
 refine callv_data (mul_c _ _ _ _ (by omega) (by omega)) ?_
 conv=>whnf
 refine callv_data (add_c _ _ _ _ (by have:=szZ_nb m1;omega) (by have:=szZ_nb m2;omega)) ?_
 conv=>whnf
 refine callv_data (mul_c _ _ _ _ (by omega) (by omega)) ?_
 conv=>whnf
 rw [sg_z,sg_z]
 refine callv_data (number_z _ _ _ _ (by rw [e1,e2];exact_mod_cast Nat.mul_pos p1 p2) m4 m3 (by omega) (by omega)) ?_
 conv=>whnf
 refine safe_intro (by kernel_rfl) ?_
 conv=>whnf
 rw [e1,e2,show ((dv r.den:Int)*(dv s.den:Int)).toNat=dv r.den*dv s.den by rw [←Int.natCast_mul];rfl]
 refine ⟨?_,trivial⟩
 conv=>whnf
 exact ⟨rfl,rfl,rfl,trivial⟩
theorem mul2_c(r s:RD)(hr:Sz r)(hs:Sz s):Fun Tryz.prog 70 [ofD r,ofD s] [ratD (mkRat (sg r.neg (bv r.num)*sg s.neg (bv s.num)) (dv r.den*dv s.den))] :=by
 have z1:=dn_size r.den
 have z2:=dn_size s.den
 have e1:sg false (bv (dn r.den))=(dv r.den:Int):=by rw [bv_dn];rfl
 have e2:sg false (bv (dn s.den))=(dv s.den:Int):=by rw [bv_dn];rfl
 have k1:=szZ_sg r.neg r.num
 have k2:=szZ_sg s.neg s.num
 have k3:=szZ_sg false (dn r.den)
 have k4:=szZ_sg false (dn s.den)
 have m1:=szZ_mul k1 k2
 have m3:=szZ_mul k3 k4
 have p1:=dv_pos r.den
 have p2:=dv_pos s.den
 obtain ⟨hr1,hr2⟩:=hr
 obtain ⟨hs1,hs2⟩:=hs
 refine fun_of_go (fun t=>t==4) mixed tOk Tryz.func70 rfl rfl ?_
 conv=>whnf
 refine callv_data (mul_c _ _ _ _ (by omega) (by omega)) ?_
 conv=>whnf
 refine callv_data (mul_c _ _ _ _ (by omega) (by omega)) ?_
 conv=>whnf
 refine callv_data (number_z _ _ _ _ (by rw [e1,e2];exact_mod_cast Nat.mul_pos p1 p2) m1 m3 (by omega) (by omega)) ?_
 conv=>whnf
 refine safe_intro (by kernel_rfl) ?_
 conv=>whnf
 rw [e1,e2,show ((dv r.den:Int)*(dv s.den:Int)).toNat=dv r.den*dv s.den by rw [←Int.natCast_mul];rfl]
 refine ⟨?_,trivial⟩
 conv=>whnf
 exact ⟨rfl,rfl,rfl,trivial⟩
theorem cmp2_c(r s:RD)(hr:Sz r)(hs:Sz s):Fun Tryz.prog 99 [ofD r,ofD s] [i64 (cmpZ (sg r.neg (bv r.num)*dv s.den) (sg s.neg (bv s.num)*dv r.den))] :=by
 have z1:=dn_size r.den
 have z2:=dn_size s.den
 have e1:sg false (bv (dn r.den))=(dv r.den:Int):=by rw [bv_dn];rfl
 have e2:sg false (bv (dn s.den))=(dv s.den:Int):=by rw [bv_dn];rfl
 have k1:=szZ_sg r.neg r.num
 have k2:=szZ_sg s.neg s.num
 have k3:=szZ_sg false (dn r.den)
 have k4:=szZ_sg false (dn s.den)
 have m1:=szZ_nb (szZ_mul k1 k4)
 have m2:=szZ_nb (szZ_mul k2 k3)
 obtain ⟨hr1,hr2⟩:=hr
 obtain ⟨hs1,hs2⟩:=hs
 refine fun_of_go (fun t=>t==4) mixed tOk Tryz.func99 rfl rfl ?_
 conv=>whnf
 refine callv_data (mul_c _ _ _ _ (by omega) (by omega)) ?_
 conv=>whnf
 refine callv_data (mul_c _ _ _ _ (by omega) (by omega)) ?_
 conv=>whnf
 refine callv_data (compareI_c _ _ _ _ (by omega) (by omega)) ?_
 conv=>whnf
 refine safe_intro (by kernel_rfl) ?_
 conv=>whnf
 refine ⟨?_,trivial⟩
 conv=>whnf
 rw [sg_z,sg_z,e1,e2]
theorem cmp1_c(n d m e:Int)(hn: -16777216<n∧n<16777216)(hd:0<d∧d<16777216)(hm: -16777216<m∧m<16777216)(he:0<e∧e<16777216):
  Fun Tryz.prog 98 [i64 n,i64 d,i64 m,i64 e] [i64 (cmpZ (n*e) (m*d))] :=by
 have b1:=mul_bd hn (show-16777216<e∧e<16777216 by omega)
 have b2:=mul_bd hm (show-16777216<d∧d<16777216 by omega)
 refine fun_of_go (fun t=>false) mixed tOk Tryz.func98 rfl rfl ?_
 conv=>whnf
 refine sd_d (by omega) ?_
 conv=>whnf
 refine sd_d (by omega) ?_
 conv=>whnf
 refine cond_d (fun h=> ?_) (fun h=> ?_)
 ·conv=>whnf
  refine ⟨?_,trivial⟩
  conv=>whnf
  unfold cmpZ;rw [if_pos h]
 ·conv=>whnf
  refine cond_d (fun h2=> ?_) (fun h2=> ?_)
  ·conv=>whnf
   refine ⟨?_,trivial⟩
   conv=>whnf
   unfold cmpZ;rw [if_neg h,if_pos h2]
  ·conv=>whnf
   refine ⟨?_,trivial⟩
   conv=>whnf
   unfold cmpZ;rw [if_neg h,if_neg h2]
end Go.Nv
end
