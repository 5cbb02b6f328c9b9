import Derived.Test.YtdjbkccoofcnjaaGreatNvC1
import Derived.Test.YtdjbkccoofcnjaaGreatNvP1
import Derived.Test.YtdjbkccoofcnjaaGreatNvN5
set_option linter.all false
set_option maxRecDepth 100000
section
namespace Go.Nv
open Go.Proofs Nw
@[irreducible] def ng(z:Int):Bool:=decide (z<0)
theorem ng_eq(z:Int):ng z=decide (z<0):=by unfold ng;rfl
abbrev intD(n:Bool)(s:ByteArray):D:= .a [.v (.bool n),.v (.string s)]
abbrev zD(z:Int):D:= .a [.v (.bool (ng z)),.v (.string (nb z.natAbs))]
def sg(n:Bool)(a:Nat):Int:=if n then-(a:Int) else a
theorem iv_sg(n:Bool)(s:ByteArray):iv n s=sg n (bv s):=rfl
theorem sg_abs(n:Bool)(a:Nat):(sg n a).natAbs=a:=by unfold sg;split<;>omega
theorem nb_ne{a:Nat}:(nb a==(⟨#[]⟩:ByteArray))=decide (a=0):=by
 rw [byt_beq,Bool.eq_iff_iff,decide_eq_true_eq,decide_eq_true_eq]
 exact nb_eq_emp
theorem ng_sg(n:Bool)(a:Nat):ng (sg n a)=(n&& !(nb a==(⟨#[]⟩:ByteArray))):=by
 rw [ng_eq,nb_ne];unfold sg
 cases n<;>by_cases h:a=0<;>simp [h] <;>omega
theorem pack_c(n:Bool)(l:List Nat)(hl:Lim l)(hz:l.length<1000000000000):Fun Tryz.prog 133 [.v (.bool n),.l (us l)] [zD (sg n (lv l))] :=by
 have hlen:(ln (lv l)).length<1000000000000:=by
  have:=ln_length_le (lv_lt hl);omega
 refine fun_of_go (fun t=>false) mixed tOk Tryz.func133 rfl rfl ?_
 conv=>whnf
 refine call_data rfl rfl (trim_c l hl (by omega)) ?_
 conv=>whnf
 refine call_data rfl rfl (store_c _ hlen) ?_
 refine cond_intro (fun h=> ?_) (fun h=> ?_)<;>conv=>whnf
 ·refine ⟨⟨?_, ?_,trivial⟩,trivial⟩
  ·conv=>whnf
   rw [ng_sg,h,bz_eq];rfl
  ·conv=>whnf
   rw [sg_abs]
 ·refine ⟨⟨?_, ?_,trivial⟩,trivial⟩
  ·conv=>whnf
   rw [ng_sg,h];rfl
  ·conv=>whnf
   rw [sg_abs]
theorem pack_ln(n:Bool)(a:Nat)(ha:(ln a).length<1000000000000):Fun Tryz.prog 133 [.v (.bool n),.l (us (ln a))] [zD (sg n a)] :=by
 have:=pack_c n (ln a) (lim_ln a) ha
 rwa [lv_ln] at this
theorem of_c(n:Int)(h: -9223372036854775808≤n∧n≤9223372036854775807):Fun Tryz.prog 61 [i64 n] [zD n] :=by
 refine fun_of_go (fun t=>false) mixed tOk Tryz.func61 rfl rfl ?_
 conv=>whnf
 have key: ∀(z:Bool) (x y:Int),z=decide (n<0)→x=((n.natAbs%4294967296:Nat):Int)→y=((n.natAbs/4294967296:Nat):Int)→Fun Tryz.prog 133 [.v (.bool z),.l [u32 x,u32 y]] [zD n] :=by
  rintro z x y rfl rfl rfl
  have:=pack_c (decide (n<0)) [n.natAbs%4294967296,n.natAbs/4294967296] (by intro x hx;simp at hx;omega) (by simp)
  have e:sg (decide (n<0)) (lv [n.natAbs%4294967296,n.natAbs/4294967296])=n:=by
   simp only [lv,sg,decide_eq_true_eq];split<;>omega
  rw [e] at this
  unfold us at this
  exact this
 refine cond_d (fun h2=> ?_) (fun h2=> ?_)<;>conv=>whnf
 ·refine sd_d (by omega) ?_
  conv=>whnf
  refine call_data rfl rfl (key _ _ _ (bz_eq _) ?_ ?_) ?_
  ·omega
  ·have:=sh32 n.natAbs
   have e:(0-n%18446744073709551616)%18446744073709551616=(n.natAbs:Int):=by omega
   show Int.fdiv ((0-n%18446744073709551616)%18446744073709551616) (2^min (Int.toNat 32) IntKind.u64.bits)%4294967296=_
   rw [e,this];omega
  ·conv=>whnf
   exact ⟨⟨rfl,rfl,trivial⟩,trivial⟩
 ·refine sd_d (by omega) ?_
  conv=>whnf
  refine call_data rfl rfl (key _ _ _ (bz_eq _) ?_ ?_) ?_
  ·omega
  ·have:=sh32 n.natAbs
   have e:n%18446744073709551616=(n.natAbs:Int):=by omega
   show Int.fdiv (n%18446744073709551616) (2^min (Int.toNat 32) IntKind.u64.bits)%4294967296=_
   rw [e,this];omega
  ·conv=>whnf
   exact ⟨⟨rfl,rfl,trivial⟩,trivial⟩
theorem ln_size(s:ByteArray)(h:s.size<1000000000000):(ln (bv s)).length≤(s.size+3)/4:=ln_len_bytes (bvl_lt _)
theorem neg_c(n:Bool)(s:ByteArray)(h:s.size<1000000000000):Fun Tryz.prog 132 [intD n s] [zD (-(sg n (bv s)))] :=by
 have hs:=ln_size s h
 refine fun_of_go (fun t=>false) mixed tOk Tryz.func132 rfl rfl ?_
 conv=>whnf
 refine callv_data (load_c s h) ?_
 conv=>whnf
 refine callv_eq (pack_ln (!n) (bv s) (by omega)) (by simp only [bnot_eq];rfl) ?_
 conv=>whnf
 refine safe_intro (by kernel_rfl) ?_
 conv=>whnf
 have e:sg (!n) (bv s)= -(sg n (bv s)):=by unfold sg;cases n<;>simp
 rw [e]
 exact ⟨⟨rfl,rfl,trivial⟩,trivial⟩
theorem mul_c(n m:Bool)(s t:ByteArray)(hs:s.size<500000000000)(ht:t.size<500000000000):Fun Tryz.prog 68 [intD n s,intD m t] [zD (sg n (bv s)*sg m (bv t))] :=by
 have h1:=ln_size s (by omega)
 have h2:=ln_size t (by omega)
 have h3:(ln (bv s*bv t)).length≤(ln (bv s)).length+(ln (bv t)).length:=ln_length_le (by rw [Nat.pow_add];exact Nat.mul_lt_mul'' (ln_high _) (ln_high _))
 refine fun_of_go (fun t=>false) mixed tOk Tryz.func68 rfl rfl ?_
 conv=>whnf
 refine callv_data (load_c s (by omega)) ?_
 conv=>whnf
 refine callv_data (load_c t (by omega)) ?_
 conv=>whnf
 refine callv_data (times_c _ _ (by omega) (by omega)) ?_
 conv=>whnf
 refine callv_eq (pack_ln (n !=m) (bv s*bv t) (by omega)) (by simp only [bz_eq];rfl) ?_
 conv=>whnf
 refine safe_intro (by kernel_rfl) ?_
 conv=>whnf
 have e:sg (n !=m) (bv s*bv t)=sg n (bv s)*sg m (bv t):=by unfold sg;cases n<;>cases m<;>simp<;>push_cast<;>grind
 rw [e]
 exact ⟨⟨rfl,rfl,trivial⟩,trivial⟩
theorem or_i64(a b:Nat)(h:b<256)(ha:a<2^54):IntKind.i64.wrap ((BitVec.ofInt 64 ((a:Int)*256)|||BitVec.ofInt 64 (b:Int)).toNat:Int)=((a*256+b:Nat):Int):=by
 have e1:(BitVec.ofInt 64 ((a:Int)*256)).toNat=a<<<8:=by
  have e:((a:Int)*256)=((a*256:Nat):Int):=by omega
  rw [e,BitVec.ofInt_natCast,BitVec.toNat_ofNat,Nat.mod_eq_of_lt (by omega),Nat.shiftLeft_eq]
 have e2:(BitVec.ofInt 64 (b:Int)).toNat=b:=by
  rw [BitVec.ofInt_natCast,BitVec.toNat_ofNat,Nat.mod_eq_of_lt (by omega)]
 have e3:=Nat.shiftLeft_add_eq_or_of_lt (show b<2^8 from h) a
 rw [BitVec.toNat_or,e1,e2, ←e3,Nat.shiftLeft_eq,wr_eq .i64 _ (by simp only [wrS];omega)]
 rfl
def pre(s:ByteArray)(i:Nat):Nat:=bvl (s.data.toList.take i)
theorem pre_step(s:ByteArray)(i:Nat)(h:i<s.size):bt s i=((s.data.toList[i]'(by simpa using h)).toNat:Int)∧pre s (i+1)=pre s i*256+(s.data.toList[i]'(by simpa using h)).toNat:=by
 have hl:i<s.data.toList.length:=by simpa using h
 constructor
 ·unfold bt
  rw [dif_pos (show ((i:Int)).toNat<s.size by simpa using h)]
  rfl
 ·unfold pre
  rw [List.take_succ_eq_append_getElem hl,bvl_snoc]
theorem pre_zero(s:ByteArray):pre s 0=0:=by simp [pre,bvl]
theorem pre_all(s:ByteArray):pre s s.size=bv s:=by
 unfold pre bv
 rw [List.take_of_length_le (by simp)]
theorem pre_lt(s:ByteArray)(i:Nat)(h:i≤s.size):pre s i<256^i:=by
 have:=bvl_lt (s.data.toList.take i)
 have e:(s.data.toList.take i).length=i:=by rw [List.length_take];exact Nat.min_eq_left (by simpa using h)
 rw [e] at this;exact this
theorem sh8(n:Nat):(n:Int)*2^min (Int.toNat 8) IntKind.i64.bits=(n:Int)*256:=by
 have:((2:Int)^min (Int.toNat 8) IntKind.i64.bits)=256:=by decide
 rw [this]
@[irreducible] def sml(s:ByteArray)(k:Nat):Bool:=decide (s.size≤k)
theorem sml_eq(s:ByteArray)(k:Nat):sml s k=decide (s.size≤k):=by unfold sml;rfl
theorem p54{s:ByteArray}{i:Nat}(h:i<s.size)(hs:s.size≤7):pre s i<2^54:=by
 have h1:=pre_lt s i (by omega)
 have h2:256^i≤256^6:=Nat.pow_le_pow_right (by omega) (by omega)
 have h3:(256:Nat)^6=281474976710656:=rfl
 omega
theorem little_c(n:Bool)(s:ByteArray):Fun Tryz.prog 139 [intD n s] [i64 (if s.size≤7 then sg n (bv s) else 0),.v (.bool (sml s 7))] :=by
 refine fun_of_go (fun t=>false) mixed tOk Tryz.func139 rfl rfl ?_
 conv=>whnf
 refine cond_d (fun h=> ?_) (fun h=> ?_)<;>conv=>whnf
 ·refine ⟨?_, ?_,trivial⟩
  ·conv=>whnf
   rw [if_neg (by omega)]
  ·conv=>whnf
   rw [sml_eq];simp;omega
 ·have hs:s.size≤7:=by omega
  refine loop_intro (fun t=>false) (fun i:Nat=>⟨fr 30 [(0,.d (intD n s)),(1,.d (.p 0 [.v (.bool n),.v (.string s)])),(2,.d (i64 0)),(3,.d (.v (.bool false))),(4,.d (i64 (pre s i))),(12,.d (i64 s.size)),(13,.d (i64 i))], []⟩) (fun i=>i≤s.size) (fun i=>s.size-i) 0 mixed tOk (Nat.zero_le _) ?_ ?_
  ·refine weak_r trivial ⟨⟨rfl,rfl,trivial⟩,rfl,rfl,rfl, ?_,rfl,rfl,trivial⟩
   conv=>whnf
   rw [pre_zero];rfl
  ·intro i hi
   conv=>whnf
   refine cond_d (fun h2=> ?_) (fun h2=> ?_)<;>conv=>whnf
   ·obtain ⟨p1,p2⟩:=pre_step s i (by omega)
    have hp:=p54 (s:=s) (i:=i) (by omega) hs
    have h8:=sh8 (pre s i)
    refine sd_dd (by omega) (by omega) ?_
    conv=>whnf
    refine sd_d (by omega) ?_
    conv=>whnf
    generalize s.data.toList[i]'_=b at p1 p2
    have hb:=b.toNat_lt
    refine sd_d (by rw [p1];omega) ?_
    conv=>whnf
    refine sd_d (by omega) ?_
    conv=>whnf
    refine ⟨i+1,by omega,by omega,weak_r trivial ⟨⟨rfl,rfl,trivial⟩,rfl,rfl,rfl, ?_,rfl,rfl,trivial⟩⟩
    conv=>whnf
    rw [p1,p2,h8]
    exact or_i64 _ _ (by omega) hp
   ·have hi2:i=s.size:=by omega
    refine cond_intro (fun h3=> ?_) (fun h3=> ?_)<;>conv=>whnf
    ·have hlt:pre s s.size<72057594037927936:=by
      have h1:=pre_lt s s.size (Nat.le_refl _)
      have h2:256^s.size≤256^7:=Nat.pow_le_pow_right (by omega) (by omega)
      have h3:(256:Nat)^7=72057594037927936:=rfl
      omega
     refine sd_d (by rw [hi2];omega) ?_
     conv=>whnf
     refine ⟨?_, ?_,trivial⟩
     ·conv=>whnf
      rw [if_pos hs,hi2,pre_all,h3];simp [sg]
     ·conv=>whnf
      rw [sml_eq];simp [hs]
    ·refine ⟨?_, ?_,trivial⟩
     ·conv=>whnf
      rw [if_pos hs,hi2,pre_all,h3];simp [sg]
     ·conv=>whnf
      rw [sml_eq];simp [hs]
theorem sg_small{n:Bool}{s:ByteArray}(h:s.size≤7): -72057594037927936<sg n (bv s)∧sg n (bv s)<72057594037927936:=by
 have h1:bv s<256^s.size:=bvl_lt _
 have h2:256^s.size≤256^7:=Nat.pow_le_pow_right (by omega) h
 have h3:(256:Nat)^7=72057594037927936:=rfl
 unfold sg;split<;>omega
theorem add_c(n m:Bool)(s t:ByteArray)(hs:s.size<500000000000)(ht:t.size<500000000000):Fun Tryz.prog 67 [intD n s,intD m t] [zD (sg n (bv s)+sg m (bv t))] :=by
 have h1:=ln_size s (by omega)
 have h2:=ln_size t (by omega)
 refine fun_of_go (fun t=>false) mixed tOk Tryz.func67 rfl rfl ?_
 conv=>whnf
 refine call_data rfl rfl (little_c n s) ?_
 conv=>whnf
 refine cond_intro (fun h3=> ?_) (fun h3=> ?_)
 ·conv=>whnf
  refine call_data rfl rfl (little_c m t) ?_
  conv=>whnf
  refine cond_intro (fun h4=> ?_) (fun h4=> ?_)
  ·conv=>whnf
   rw [sml_eq,decide_eq_true_eq] at h3 h4
   have b1:=sg_small (n:=n) h3
   have b2:=sg_small (n:=m) h4
   rw [if_pos h3,if_pos h4]
   refine sd_d (by omega) ?_
   conv=>whnf
   refine call_data rfl rfl (of_c _ (by omega)) ?_
   conv=>whnf
   exact ⟨⟨rfl,rfl,trivial⟩,trivial⟩
  ·conv=>whnf
   refine callv_data (load_c s (by omega)) ?_
   conv=>whnf
   refine callv_data (load_c t (by omega)) ?_
   conv=>whnf
   refine safe_intro (by kernel_rfl) ?_
   conv=>whnf
   refine cond_b (fun h5=> ?_) (fun h5=> ?_)
   ·conv=>whnf
    refine callv_data (plus_c _ _ (by omega) (by omega)) ?_
    conv=>whnf
    have hl:(ln (bv s+bv t)).length<1000000000000:=by
     have h7:=ln_high (bv s);have h8:=ln_high (bv t)
     have:=ln_length_le (v:=bv s+bv t) (m:=(ln (bv s)).length+(ln (bv t)).length+1) (by
      have e1:=Nat.pow_le_pow_right (n:=4294967296) (by omega) (show (ln (bv s)).length≤(ln (bv s)).length+(ln (bv t)).length by omega)
      have e2:=Nat.pow_le_pow_right (n:=4294967296) (by omega) (show (ln (bv t)).length≤(ln (bv s)).length+(ln (bv t)).length by omega)
      rw [Nat.pow_succ];omega)
     omega
    refine callv_data (pack_ln n _ hl) ?_
    conv=>whnf
    refine safe_intro (by kernel_rfl) ?_
    conv=>whnf
    have e:sg n (bv s+bv t)=sg n (bv s)+sg m (bv t):=by
     have:n=m:=by simpa using h5
     subst this;unfold sg;split<;>omega
    rw [e]
    exact ⟨⟨rfl,rfl,trivial⟩,trivial⟩
   ·conv=>whnf
    refine call_data rfl rfl (compare_c _ _ (by omega) (by omega)) ?_
    conv=>whnf
    refine cond_d (fun h6=> ?_) (fun h6=> ?_)
    ·conv=>whnf
     have hlt:bv s<bv t:=by unfold cmpN at h6;split at h6<;>first|assumption|(split at h6<;>omega)
     refine callv_data (minus_c _ _ (by omega) (by omega)) ?_
     conv=>whnf
     refine callv_data (pack_ln m _ (by have:=ln_len_mono (show bv t-bv s≤bv t by omega);omega)) ?_
     conv=>whnf
     refine safe_intro (by kernel_rfl) ?_
     conv=>whnf
     have e:sg m (bv t-bv s)=sg n (bv s)+sg m (bv t):=by
      unfold sg;cases n<;>cases m<;>simp at h5 ⊢ <;>omega
     rw [e]
     exact ⟨⟨rfl,rfl,trivial⟩,trivial⟩
    ·conv=>whnf
     have hge:bv t≤bv s:=by
      rcases Nat.lt_or_ge (bv s) (bv t) with h7|h7
      ·exact absurd (by unfold cmpN;rw [if_pos h7];omega) h6
      ·exact h7
     refine callv_data (minus_c _ _ (by omega) (by omega)) ?_
     conv=>whnf
     refine callv_data (pack_ln n _ (by have:=ln_len_mono (show bv s-bv t≤bv s by omega);omega)) ?_
     conv=>whnf
     refine safe_intro (by kernel_rfl) ?_
     conv=>whnf
     have e:sg n (bv s-bv t)=sg n (bv s)+sg m (bv t):=by
      unfold sg;cases n<;>cases m<;>simp at h5 ⊢ <;>omega
     rw [e]
     exact ⟨⟨rfl,rfl,trivial⟩,trivial⟩
 ·conv=>whnf
  refine callv_data (load_c s (by omega)) ?_
  conv=>whnf
  refine callv_data (load_c t (by omega)) ?_
  conv=>whnf
  refine safe_intro (by kernel_rfl) ?_
  conv=>whnf
  refine cond_b (fun h5=> ?_) (fun h5=> ?_)
  ·conv=>whnf
   refine callv_data (plus_c _ _ (by omega) (by omega)) ?_
   conv=>whnf
   have hl:(ln (bv s+bv t)).length<1000000000000:=by
    have h7:=ln_high (bv s);have h8:=ln_high (bv t)
    have:=ln_length_le (v:=bv s+bv t) (m:=(ln (bv s)).length+(ln (bv t)).length+1) (by
     have e1:=Nat.pow_le_pow_right (n:=4294967296) (by omega) (show (ln (bv s)).length≤(ln (bv s)).length+(ln (bv t)).length by omega)
     have e2:=Nat.pow_le_pow_right (n:=4294967296) (by omega) (show (ln (bv t)).length≤(ln (bv s)).length+(ln (bv t)).length by omega)
     rw [Nat.pow_succ];omega)
    omega
   refine callv_data (pack_ln n _ hl) ?_
   conv=>whnf
   refine safe_intro (by kernel_rfl) ?_
   conv=>whnf
   have e:sg n (bv s+bv t)=sg n (bv s)+sg m (bv t):=by
    have:n=m:=by simpa using h5
    subst this;unfold sg;split<;>omega
   rw [e]
   exact ⟨⟨rfl,rfl,trivial⟩,trivial⟩
  ·conv=>whnf
   refine call_data rfl rfl (compare_c _ _ (by omega) (by omega)) ?_
   conv=>whnf
   refine cond_d (fun h6=> ?_) (fun h6=> ?_)
   ·conv=>whnf
    have hlt:bv s<bv t:=by unfold cmpN at h6;split at h6<;>first|assumption|(split at h6<;>omega)
    refine callv_data (minus_c _ _ (by omega) (by omega)) ?_
    conv=>whnf
    refine callv_data (pack_ln m _ (by have:=ln_len_mono (show bv t-bv s≤bv t by omega);omega)) ?_
    conv=>whnf
    refine safe_intro (by kernel_rfl) ?_
    conv=>whnf
    have e:sg m (bv t-bv s)=sg n (bv s)+sg m (bv t):=by
     unfold sg;cases n<;>cases m<;>simp at h5 ⊢ <;>omega
    rw [e]
    exact ⟨⟨rfl,rfl,trivial⟩,trivial⟩
   ·conv=>whnf
    have hge:bv t≤bv s:=by
     rcases Nat.lt_or_ge (bv s) (bv t) with h7|h7
     ·exact absurd (by unfold cmpN;rw [if_pos h7];omega) h6
     ·exact h7
    refine callv_data (minus_c _ _ (by omega) (by omega)) ?_
    conv=>whnf
    refine callv_data (pack_ln n _ (by have:=ln_len_mono (show bv s-bv t≤bv s by omega);omega)) ?_
    conv=>whnf
    refine safe_intro (by kernel_rfl) ?_
    conv=>whnf
    have e:sg n (bv s-bv t)=sg n (bv s)+sg m (bv t):=by
     unfold sg;cases n<;>cases m<;>simp at h5 ⊢ <;>omega
    rw [e]
    exact ⟨⟨rfl,rfl,trivial⟩,trivial⟩
theorem sub_c(n m:Bool)(s t:ByteArray)(hs:s.size<500000000000)(ht:t.size<500000000000):Fun Tryz.prog 229 [intD n s,intD m t] [zD (sg n (bv s)-sg m (bv t))] :=by
 refine fun_of_go (fun t=>t==3) mixed tOk Tryz.func229 rfl rfl ?_
 conv=>whnf
 refine call_eq rfl rfl (add_c n (!m) s t hs ht) (by simp only [bnot_eq];rfl) ?_
 conv=>whnf
 have e:sg n (bv s)+sg (!m) (bv t)=sg n (bv s)-sg m (bv t):=by unfold sg;cases m<;>simp<;>omega
 rw [e]
 exact ⟨⟨rfl,rfl,trivial⟩,trivial⟩
def cmpZ(a b:Int):Int:=if a<b then-1 else if b<a then 1 else 0
theorem cmp_sg(n m:Bool)(a b:Nat)(x y:Bool)(hx:x=(n&&decide (a≠0)))(hy:y=(m&&decide (b≠0))):
  cmpZ (sg n a) (sg m b)=if x then (if y then cmpN b a else-1) else if y then 1 else cmpN a b:=by
 subst hx hy
 unfold cmpZ cmpN sg
 cases n<;>cases m<;>by_cases h1:a=0<;>by_cases h2:b=0<;>simp [h1,h2] <;>(repeat' split)<;>omega
theorem compareI_c(n m:Bool)(s t:ByteArray)(hs:s.size<1000000000000)(ht:t.size<1000000000000):Fun Tryz.prog 96 [intD n s,intD m t] [i64 (cmpZ (sg n (bv s)) (sg m (bv t)))] :=by
 have h1:=ln_size s hs
 have h2:=ln_size t ht
 have l1:=us_length (ln (bv s))
 have l2:=us_length (ln (bv t))
 have z1:=ln_len_eq_zero (a:=bv s)
 have z2:=ln_len_eq_zero (a:=bv t)
 refine fun_of_go (fun t=>t==2||t==3) mixed tOk Tryz.func96 rfl rfl ?_
 conv=>whnf
 refine callv_data (load_c s hs) ?_
 conv=>whnf
 refine callv_data (load_c t ht) ?_
 conv=>whnf
 refine safe_intro (by kernel_rfl) ?_
 conv=>whnf
 generalize bv s=p at*
 generalize bv t=q at*
 refine cond_intro (fun hn=> ?_) (fun hn=> ?_)
 ·conv=>whnf
  refine cond_intro (fun hm=> ?_) (fun hm=> ?_)
  ·conv=>whnf
   refine cond_d (fun ha=> ?_) (fun ha=> ?_)
   ·conv=>whnf
    refine cond_d (fun hb=> ?_) (fun hb=> ?_)
    ·conv=>whnf
     refine call_data rfl rfl (compare_c q p (by omega) (by omega)) ?_
     conv=>whnf
     refine ⟨?_,trivial⟩
     conv=>whnf
     have hc:=cmp_sg n m p q true true (by simp [*];try omega) (by simp [*];try omega)
     rw [hc];simp
    ·conv=>whnf
     refine cond_dt ha ?_
     conv=>whnf
     refine ⟨?_,trivial⟩
     conv=>whnf
     have hc:=cmp_sg n m p q true false (by simp [*];try omega) (by simp [*];try omega)
     rw [hc];simp
   ·conv=>whnf
    refine cond_df ha ?_
    conv=>whnf
    refine cond_d (fun hb=> ?_) (fun hb=> ?_)<;>conv=>whnf
    ·refine ⟨?_,trivial⟩
     conv=>whnf
     have hc:=cmp_sg n m p q false true (by simp [*];try omega) (by simp [*];try omega)
     rw [hc];simp
    ·refine call_data rfl rfl (compare_c p q (by omega) (by omega)) ?_
     conv=>whnf
     refine ⟨?_,trivial⟩
     conv=>whnf
     have hc:=cmp_sg n m p q false false (by simp [*];try omega) (by simp [*];try omega)
     rw [hc];simp
  ·conv=>whnf
   refine cond_d (fun ha=> ?_) (fun ha=> ?_)
   ·conv=>whnf
    refine cond_dt ha ?_
    conv=>whnf
    refine ⟨?_,trivial⟩
    conv=>whnf
    have hc:=cmp_sg n m p q true false (by simp [*];try omega) (by simp [*];try omega)
    rw [hc];simp
   ·conv=>whnf
    refine cond_df ha ?_
    conv=>whnf
    refine call_data rfl rfl (compare_c p q (by omega) (by omega)) ?_
    conv=>whnf
    refine ⟨?_,trivial⟩
    conv=>whnf
    have hc:=cmp_sg n m p q false false (by simp [*];try omega) (by simp [*];try omega)
    rw [hc];simp
 ·conv=>whnf
  refine cond_intro (fun hm=> ?_) (fun hm=> ?_)
  ·conv=>whnf
   refine cond_d (fun hb=> ?_) (fun hb=> ?_)<;>conv=>whnf
   ·refine ⟨?_,trivial⟩
    conv=>whnf
    have hc:=cmp_sg n m p q false true (by simp [*];try omega) (by simp [*];try omega)
    rw [hc];simp
   ·refine call_data rfl rfl (compare_c p q (by omega) (by omega)) ?_
    conv=>whnf
    refine ⟨?_,trivial⟩
    conv=>whnf
    have hc:=cmp_sg n m p q false false (by simp [*];try omega) (by simp [*];try omega)
    rw [hc];simp
  ·conv=>whnf
   refine call_data rfl rfl (compare_c p q (by omega) (by omega)) ?_
   conv=>whnf
   refine ⟨?_,trivial⟩
   conv=>whnf
   have hc:=cmp_sg n m p q false false (by simp [*];try omega) (by simp [*];try omega)
   rw [hc];simp
theorem short_c(a d:Nat)(h0:0<d)(hd:d<4294967296)(ha:(ln a).length<1000000000000):Fun Tryz.prog 297 [.l (us (ln a)),u32 d] [.l (us (ln (a/d))),u32 ((a%d:Nat):Int)] :=by
 have la:=us_length (ln a)
 refine fun_of_go (fun t=>false) mixed tOk Tryz.func297 rfl rfl ?_
 conv=>whnf
 refine sd_d (by simp only [maxLen];omega) ?_
 conv=>whnf
 refine sd_d (by omega) ?_
 conv=>whnf
 refine loop_intro (fun t=>false) (fun k:Nat=>⟨fr 35 [(0,.d (.l (us (ln a)))),(1,.d (u32 d)),(4,.own 0 0),(5,.d (u32 0)),(6,.own 1 0),(7,.d (u32 ((a/4294967296^k%d:Nat):Int))),(8,.d (i64 ((k:Int)-1)))], [.row 0 171 1 4 [],.row 0 171 1 4 (us (dl (ln a).length (a/4294967296^k/d*4294967296^k)))]⟩) (fun k=>k≤(ln a).length) (fun k=>k) (ln a).length mixed tOk (Nat.le_refl _) ?_ ?_
 ·refine weak_r ⟨⟨rfl,rfl,rfl,rfl,rfl⟩,⟨rfl,rfl,rfl,rfl, ?_⟩,trivial⟩ ⟨rfl,rfl,trivial,rfl,trivial, ?_, ?_,trivial⟩
  ·rw [la,us_rep,Nat.div_eq_of_lt (ln_high a),Nat.zero_div,Nat.zero_mul,dl_zero];rfl
  ·conv=>whnf
   rw [Nat.div_eq_of_lt (ln_high a)];simp
  ·conv=>whnf
   rw [la]
 ·intro k hk
  conv=>whnf
  have hrl:=us_length (dl (ln a).length (a/4294967296^k/d*4294967296^k))
  rw [dl_length] at hrl
  refine cond_d (fun h2=> ?_) (fun h2=> ?_)<;>conv=>whnf
  ·obtain ⟨j,rfl⟩: ∃j,k=j+1:=⟨k-1,by omega⟩
   have e1:(((j+1:Nat):Int)-1).toNat=j:=by omega
   have hm:=Nat.mod_lt (a/4294967296^(j+1)) h0
   have hx:a/4294967296^j%4294967296<4294967296:=Nat.mod_lt _ (by omega)
   obtain ⟨s1,s2⟩:=short_step a d j h0
   refine idx_intro _ (by rw [e1];exact ul_get (show j<(ln a).length by omega)) (by omega) (us_uni _) ?_
   conv=>whnf
   refine call_data rfl rfl (div32_c ((a/4294967296^(j+1)%d:Nat):Int) ((a/4294967296^j%4294967296:Nat):Int) d (by omega) (by omega) (by omega)) ?_
   conv=>whnf
   refine sd_du (by omega) (us_uni _) ?_
   conv=>whnf
   rw [e1]
   refine rst_one (by omega) (us_val _) rfl ?_
   conv=>whnf
   refine sd_d (by omega) ?_
   conv=>whnf
   have q1:((a/4294967296^(j+1)%d:Nat):Int)*4294967296+((a/4294967296^j%4294967296:Nat):Int)=((a/4294967296^(j+1)%d*4294967296+a/4294967296^j%4294967296:Nat):Int):=by omega
   have hq:(a/4294967296^(j+1)%d*4294967296+a/4294967296^j%4294967296)/d<4294967296:=by
    rw [Nat.div_lt_iff_lt_mul h0]
    have:=Nat.mul_le_mul_right 4294967296 (show a/4294967296^(j+1)%d+1≤d by omega)
    rw [Nat.mul_comm d] at this
    omega
   refine ⟨j,by omega,by omega,weak_r ⟨⟨rfl,rfl,rfl,rfl,rfl⟩,⟨rfl,rfl,rfl,rfl, ?_⟩,trivial⟩ ⟨rfl,rfl,trivial,rfl,trivial, ?_, ?_,trivial⟩⟩
   ·rw [q1,s2, ←dl_top hq, ←us_set];rfl
   ·conv=>whnf
    rw [q1, ←s1];rfl
   ·conv=>whnf
    omega
  ·have hk0:k=0:=by omega
   subst hk0
   refine call_frz 1 (call_eq rfl rfl (trim_c (dl (ln a).length (a/4294967296^0/d*4294967296^0)) (lim_dl _ _) (by rw [dl_length];omega)) rfl ?_)
   conv=>whnf
   have hA:=ln_high a
   have hdv:=Nat.div_le_self a d
   refine ⟨?_, ?_,trivial⟩
   ·conv=>whnf
    rw [lv_dl];simp only [Nat.pow_zero,Nat.div_one,Nat.mul_one];rw [Nat.mod_eq_of_lt (by omega)]
   ·conv=>whnf
    simp
theorem shl64(x n:Nat)(hn:n≤31)(hx:x<4294967296):((x:Int)%18446744073709551616*2^min ((n:Int).toNat) IntKind.u64.bits)%18446744073709551616=((x*2^n:Nat):Int):=by
 rw [Int.toNat_natCast,show min n IntKind.u64.bits=n from Nat.min_eq_left (show n≤64 by omega)]
 have h2:2^n≤2^31:=Nat.pow_le_pow_right (by omega) hn
 have h3:x*2^n≤4294967295*2^31:=Nat.mul_le_mul (by omega) h2
 have e:(x:Int)%18446744073709551616*2^n=((x*2^n:Nat):Int):=by
  rw [show (x:Int)%18446744073709551616=x by omega];push_cast;rfl
 rw [e];omega
theorem shift_c(a n:Nat)(hn:n≤31)(ha:(ln a).length<1000000000000):FunO Tryz.prog 299 [.l (us (ln a)),i64 n] 171 1 (us (dl ((ln a).length+1) (a*2^n))):=by
 have la:=us_length (ln a)
 refine funO_of_go (fun t=>false) mixed tOk Tryz.func299 rfl rfl ?_
 conv=>whnf
 refine sd_d (by omega) ?_
 conv=>whnf
 refine sd_d (by simp only [maxLen];omega) ?_
 conv=>whnf
 refine loop_intro (fun t=>false) (fun i:Nat=>⟨fr 41 [(1,.d (i64 n)),(4,.own 0 0),(5,.own 1 0),(13,.d (.l (us (ln a)))),(14,.d (i64 (us (ln a)).length)),(15,.d (i64 i))], [.row 0 171 1 4 [],.row 0 171 1 4 (us (dl ((ln a).length+1) ((a%4294967296^i)*2^n)))]⟩) (fun i=>i≤(ln a).length) (fun i=>(ln a).length-i) 0 mixed tOk (Nat.zero_le _) ?_ ?_
 ·refine weak_r ?_ ?_<;>repeat' (first|exact trivial|exact rfl|apply And.intro)
  rw [la,us_rep,Nat.pow_zero,Nat.mod_one,Nat.zero_mul,dl_zero];rfl
 ·intro i hi
  conv=>whnf
  have hrl:=us_length (dl ((ln a).length+1) ((a%4294967296^i)*2^n))
  rw [dl_length] at hrl
  refine cond_d (fun h2=> ?_) (fun h2=> ?_)<;>conv=>whnf
  ·obtain ⟨q1,q2,q3,q4,q5,q6⟩:=shift_step (a:=a) (n:=n) (i:=i) (m:=(ln a).length+1) hn (by omega)
   have hx:a/4294967296^i%4294967296<4294967296:=Nat.mod_lt _ (by omega)
   refine idx_intro _ (ul_get (a:=a) (i:=i) (by omega)) (by omega) (us_uni _) ?_
   conv=>whnf
   refine sd_d (by omega) ?_
   conv=>whnf
   rw [shl64 _ _ hn hx]
   refine sd_du (by omega) (us_uni _) ?_
   conv=>whnf
   refine rld_intro (i:=i) (r:=0) _ _ (us_get q2) (by omega) (by omega) (us_uni _) rfl ?_
   conv=>whnf
   refine sd_du (by omega) (us_uni _) ?_
   conv=>whnf
   rw [Int.toNat_natCast]
   have e1:(((a/4294967296^i%4294967296)*2^n:Nat):Int)%4294967296=(((a/4294967296^i%4294967296)%2^(32-n)*2^n:Nat):Int):=by rw [←q3];omega
   have e2:=or32 q1 q4
   rw [e1]
   refine rst_one (by omega) (us_val _) rfl ?_
   have e3:IntKind.u32.wrap (BitVec.toNat (BitVec.ofInt IntKind.u32.bits (((a%4294967296^i)*2^n/4294967296^i:Nat):Int)|||BitVec.ofInt IntKind.u32.bits (((a/4294967296^i%4294967296)%2^(32-n)*2^n:Nat):Int)))=(((a%4294967296^i)*2^n/4294967296^i+(a/4294967296^i%4294967296)%2^(32-n)*2^n:Nat):Int):=e2
   rw [e3,us_set]
   conv=>whnf
   refine sd_d (by omega) ?_
   conv=>whnf
   refine sd_d (by omega) ?_
   conv=>whnf
   refine sd_du (by simp only [us_length,List.length_set,dl_length];omega) (us_uni _) ?_
   conv=>whnf
   rw [show ((i:Int)+1).toNat=i+1 by omega]
   refine rst_one (by simp only [us_length,List.length_set,dl_length];omega) (us_val _) rfl ?_
   have e4:=sh32 ((a/4294967296^i%4294967296)*2^n)
   rw [e4]
   conv=>whnf
   refine sd_d (by omega) ?_
   conv=>whnf
   refine ⟨i+1,by omega,by omega, ?_⟩
   refine weak_r ?_ ?_<;>repeat' (first|exact trivial|exact rfl|apply And.intro)
   have e5:(((a/4294967296^i%4294967296)*2^n/4294967296:Nat):Int)%4294967296=(((a/4294967296^i%4294967296)*2^n/4294967296:Nat):Int):=by
    clear q6 e1 e2 e3 e4 q2 q3
    generalize (a/4294967296^i%4294967296)*2^n/4294967296=z at q5
    omega
   rw [e5,us_set,q6]
  ·have hi2:i=(ln a).length:=by omega
   refine ⟨rfl,rfl,rfl, ?_⟩
   rw [hi2,Nat.mod_eq_of_lt (ln_high a)]
theorem or64'{a b:Nat}(ha:a<4294967296)(hb:b<4294967296):IntKind.u64.wrap ((BitVec.ofInt 64 (a:Int)|||BitVec.ofInt 64 ((b:Int)*4294967296)).toNat:Int)=((a+b*4294967296:Nat):Int):=by
 have:=or64 (h:=b) (l:=a) (by omega) (by omega)
 rw [BitVec.toNat_or,Nat.or_comm, ←BitVec.toNat_or,this];omega
theorem shr64(y n:Nat)(hn:n≤31):Int.fdiv (y:Int) (2^min ((n:Int).toNat) IntKind.u64.bits)=((y/2^n:Nat):Int):=by
 rw [Int.toNat_natCast,show min n IntKind.u64.bits=n from Nat.min_eq_left (show n≤64 by omega)]
 rw [Int.fdiv_eq_ediv_of_nonneg _ (by exact Int.le_of_lt (Int.pow_pos (by omega)))]
 push_cast;rfl
theorem unshift_c(r n:Nat)(hn:n≤31)(hr:(ln r).length<1000000000000):Fun Tryz.prog 301 [.l (us (ln r)),i64 n] [.l (us (ln (r/2^n)))] :=by
 have la:=us_length (ln r)
 refine fun_of_go (fun t=>false) mixed tOk Tryz.func301 rfl rfl ?_
 conv=>whnf
 refine sd_d (by simp only [maxLen];omega) ?_
 conv=>whnf
 refine loop_intro (fun t=>false) (fun i:Nat=>⟨fr 45 [(0,.d (.l (us (ln r)))),(1,.d (i64 n)),(4,.own 0 0),(5,.own 1 0),(12,.d (i64 (us (ln r)).length)),(13,.d (i64 i))], [.row 0 171 1 4 [],.row 0 171 1 4 (us (dl (ln r).length ((r/2^n)%4294967296^i)))]⟩) (fun i=>i≤(ln r).length) (fun i=>(ln r).length-i) 0 mixed tOk (Nat.zero_le _) ?_ ?_
 ·refine weak_r ?_ ?_<;>repeat' (first|exact trivial|exact rfl|apply And.intro)
  rw [la,us_rep,Nat.pow_zero,Nat.mod_one,dl_zero];rfl
 ·intro i hi
  conv=>whnf
  have hrl:=us_length (dl (ln r).length ((r/2^n)%4294967296^i))
  rw [dl_length] at hrl
  refine cond_d (fun h2=> ?_) (fun h2=> ?_)<;>conv=>whnf
  ·have hx:r/4294967296^i%4294967296<4294967296:=Nat.mod_lt _ (by omega)
   have hx':r/4294967296^(i+1)%4294967296<4294967296:=Nat.mod_lt _ (by omega)
   have hdig:=shr_dig r n i hn
   refine idx_intro _ (ul_get (a:=r) (i:=i) (by omega)) (by omega) (us_uni _) ?_
   conv=>whnf
   refine sd_d (by omega) ?_
   conv=>whnf
   refine cond_d (fun h3=> ?_) (fun h3=> ?_)<;>conv=>whnf
   ·refine sd_d (by omega) ?_
    conv=>whnf
    refine idx_intro _ (by rw [show ((i:Int)+1).toNat=i+1 by omega];exact ul_get (show i+1<(ln r).length by omega)) (by omega) (us_uni _) ?_
    conv=>whnf
    refine sd_d (by omega) ?_
    conv=>whnf
    have hy:IntKind.u64.wrap (BitVec.toNat (BitVec.ofInt IntKind.u64.bits (((r/4294967296^i%4294967296:Nat):Int)%18446744073709551616)|||BitVec.ofInt IntKind.u64.bits (((r/4294967296^(i+1)%4294967296:Nat):Int)%18446744073709551616*2^min (Int.toNat 32) IntKind.u64.bits%18446744073709551616)))=((r/4294967296^i%4294967296+r/4294967296^(i+1)%4294967296*4294967296:Nat):Int):=by
     have e:((2:Int)^min (Int.toNat 32) IntKind.u64.bits)=4294967296:=by decide
     rw [e,show ((r/4294967296^i%4294967296:Nat):Int)%18446744073709551616=((r/4294967296^i%4294967296:Nat):Int) by omega,show ((r/4294967296^(i+1)%4294967296:Nat):Int)%18446744073709551616*4294967296%18446744073709551616=((r/4294967296^(i+1)%4294967296:Nat):Int)*4294967296 by omega]
     exact or64' hx hx'
    refine sd_d (by omega) ?_
    conv=>whnf
    refine sd_du (by omega) (us_uni _) ?_
    conv=>whnf
    rw [hy,shr64 _ _ hn,Int.toNat_natCast]
    refine rst_one (by omega) (us_val _) rfl ?_
    conv=>whnf
    refine sd_d (by omega) ?_
    conv=>whnf
    refine ⟨i+1,by omega,by omega, ?_⟩
    refine weak_r ?_ ?_<;>repeat' (first|exact trivial|exact rfl|apply And.intro)
    rw [←dl_mod_set (m:=(ln r).length) _ (by omega),hdig, ←us_set]
    congr 3
   ·have hz:r/4294967296^(i+1)=0:=div_zero_of (by omega)
    have hy:((r/4294967296^i%4294967296:Nat):Int)%18446744073709551616=((r/4294967296^i%4294967296+r/4294967296^(i+1)%4294967296*4294967296:Nat):Int):=by rw [hz];omega
    refine sd_d (by omega) ?_
    conv=>whnf
    refine sd_du (by omega) (us_uni _) ?_
    conv=>whnf
    rw [hy,shr64 _ _ hn,Int.toNat_natCast]
    refine rst_one (by omega) (us_val _) rfl ?_
    conv=>whnf
    refine sd_d (by omega) ?_
    conv=>whnf
    refine ⟨i+1,by omega,by omega, ?_⟩
    refine weak_r ?_ ?_<;>repeat' (first|exact trivial|exact rfl|apply And.intro)
    rw [←dl_mod_set (m:=(ln r).length) _ (by omega),hdig, ←us_set]
    congr 3
  ·have hi2:i=(ln r).length:=by omega
   refine call_frz 1 (call_eq rfl rfl (trim_c (dl (ln r).length ((r/2^n)%4294967296^i)) (lim_dl _ _) (by rw [dl_length];omega)) rfl ?_)
   conv=>whnf
   refine ⟨?_,trivial⟩
   conv=>whnf
   have hA:=ln_high r
   have hdv:=Nat.div_le_self r (2^n)
   rw [lv_dl,hi2,Nat.mod_mod,Nat.mod_eq_of_lt (by omega)]
def blen(x:Nat):Nat:=if x=0 then 0 else Nat.log2 x+1
theorem tab_get{s:ByteArray}(h:((List.range 256).all fun i=>bt s (i:Int)==(blen i:Int))=true)(hs:s.size=256){i:Nat}(hi:i<256):bt s (i:Int)=(blen i:Int):=by
 have:=List.all_eq_true.1 h i (by simpa using hi)
 simpa using this
theorem blen_div(x k:Nat)(h:2^k≤x):blen (x/2^k)+k=blen x:=by
 have hx:x≠0:=by have:0<2^k:=Nat.pow_pos (by omega);omega
 have h2:x/2^k≠0:=by have:=Nat.div_pos h (Nat.pow_pos (by omega));omega
 unfold blen
 rw [if_neg hx,if_neg h2]
 have e:(x/2^k).log2+k=x.log2:=by
  have h3:=Nat.log2_self_le h2
  have h4:x/2^k<2^((x/2^k).log2+1):=Nat.lt_log2_self
  have h5:2^((x/2^k).log2+k)≤x:=by
   rw [Nat.pow_add]
   exact Nat.le_trans (Nat.mul_le_mul_right _ h3) (Nat.div_mul_le_self _ _)
  have h6:x<2^((x/2^k).log2+k+1):=by
   rw [Nat.div_lt_iff_lt_mul (Nat.pow_pos (by omega)), ←Nat.pow_add] at h4
   rwa [show (x/2^k).log2+k+1=(x/2^k).log2+1+k by omega]
  have h7:=(Nat.le_log2 hx).2 h5
  have h8:=(Nat.log2_lt hx).2 h6
  omega
 omega
theorem blen_le{x k:Nat}(h:x<2^k):blen x≤k:=by
 unfold blen
 split
 ·omega
 ·rename_i hx;have:=(Nat.log2_lt hx).2 h;omega
theorem blen_low{x:Nat}(h:x≠0):2^(blen x-1)≤x∧x<2^blen x:=by
 unfold blen
 rw [if_neg h]
 exact ⟨by simpa using Nat.log2_self_le h,Nat.lt_log2_self⟩
theorem len32_c(x:Nat)(hx:x<4294967296):Fun Tryz.prog 272 [u32 x] [i64 (blen x)] :=by
 refine fun_of_go (fun t=>false) mixed tOk Tryz.func272 rfl rfl ?_
 conv=>whnf
 refine cond_d (fun h=> ?_) (fun h=> ?_)
 ·conv=>whnf
  refine sd_d (by omega) ?_
  conv=>whnf
  have e:=shr32 x 16 (by omega)
  have hb:=blen_div x 16 (by omega)
  have e':Int.fdiv (x:Int) (2^min (Int.toNat 16) IntKind.u32.bits)=((x/2^16:Nat):Int):=e
  rw [e']
  generalize hy:x/2^16=y at hb ⊢
  have hy2:y<65536:=by omega
  refine cond_d (fun h=> ?_) (fun h=> ?_)
  ·conv=>whnf
   refine sd_d (by omega) ?_
   conv=>whnf
   have e:=shr32 y 8 (by omega)
   have hb2:=blen_div y 8 (by omega)
   have e':Int.fdiv (y:Int) (2^min (Int.toNat 8) IntKind.u32.bits)=((y/2^8:Nat):Int):=e
   rw [e']
   generalize hz:y/2^8=z at hb2 ⊢
   refine sd_d (by omega) ?_
   conv=>whnf
   have hX:z<256:=by omega
   have hl:=blen_le (x:=z) (k:=8) hX
   have e8:(z:Int)%256=z:=by omega
   refine sd_d (by rw [e8];refine ⟨by omega, ?_⟩;show _<((256:Nat):Int);omega) ?_
   conv=>whnf
   rw [e8,tab_get (i:=z) (by kernel_rfl) rfl hX]
   refine sd_d (by omega) ?_
   conv=>whnf
   refine sd_d (by omega) ?_
   conv=>whnf
   refine ⟨?_,trivial⟩
   conv=>whnf
   omega
  ·conv=>whnf
   have hX:y<256:=by omega
   have hl:=blen_le (x:=y) (k:=8) hX
   have e8:(y:Int)%256=y:=by omega
   refine sd_d (by rw [e8];refine ⟨by omega, ?_⟩;show _<((256:Nat):Int);omega) ?_
   conv=>whnf
   rw [e8,tab_get (i:=y) (by kernel_rfl) rfl hX]
   refine sd_d (by omega) ?_
   conv=>whnf
   refine sd_d (by omega) ?_
   conv=>whnf
   refine ⟨?_,trivial⟩
   conv=>whnf
   omega
 ·conv=>whnf
  refine cond_d (fun h=> ?_) (fun h=> ?_)
  ·conv=>whnf
   refine sd_d (by omega) ?_
   conv=>whnf
   have e:=shr32 x 8 (by omega)
   have hb2:=blen_div x 8 (by omega)
   have e':Int.fdiv (x:Int) (2^min (Int.toNat 8) IntKind.u32.bits)=((x/2^8:Nat):Int):=e
   rw [e']
   generalize hz:x/2^8=z at hb2 ⊢
   refine sd_d (by omega) ?_
   conv=>whnf
   have hX:z<256:=by omega
   have hl:=blen_le (x:=z) (k:=8) hX
   have e8:(z:Int)%256=z:=by omega
   refine sd_d (by rw [e8];refine ⟨by omega, ?_⟩;show _<((256:Nat):Int);omega) ?_
   conv=>whnf
   rw [e8,tab_get (i:=z) (by kernel_rfl) rfl hX]
   refine sd_d (by omega) ?_
   conv=>whnf
   refine sd_d (by omega) ?_
   conv=>whnf
   refine ⟨?_,trivial⟩
   conv=>whnf
   omega
  ·conv=>whnf
   have hX:x<256:=by omega
   have hl:=blen_le (x:=x) (k:=8) hX
   have e8:(x:Int)%256=x:=by omega
   refine sd_d (by rw [e8];refine ⟨by omega, ?_⟩;show _<((256:Nat):Int);omega) ?_
   conv=>whnf
   rw [e8,tab_get (i:=x) (by kernel_rfl) rfl hX]
   refine sd_d (by omega) ?_
   conv=>whnf
   refine sd_d (by omega) ?_
   conv=>whnf
   refine ⟨?_,trivial⟩
   conv=>whnf
   omega
theorem lz32_c(x:Nat)(hx:x<4294967296):Fun Tryz.prog 298 [u32 x] [i64 ((32-blen x:Nat):Int)] :=by
 have hl:=blen_le (x:=x) (k:=32) hx
 refine fun_of_go (fun t=>false) mixed tOk Tryz.func298 rfl rfl ?_
 conv=>whnf
 refine call_data rfl rfl (len32_c x hx) ?_
 conv=>whnf
 refine sd_d (by omega) ?_
 conv=>whnf
 refine ⟨?_,trivial⟩
 conv=>whnf
 omega
end Go.Nv
end
section
namespace Go.Nv
open Go.Proofs Nw
theorem eqBP_refl(b:B):eqBP b b:=by
 have hS: ∀s,eqSP s s:=by
  intro s
  have hD: ∀n d,eqDn n d d:=by
   intro n
   induction n with
   |zero=>intro d;rfl
   |succ n ih=>
    have hl: ∀l,eqLP (eqDn n) l l:=by intro l;induction l with
     |nil=>trivial
     |cons x xs ihx=>exact ⟨ih x,ihx⟩
    intro d
    cases d with
    |v x=>
     show eqVP x x
     cases x<;>simp [eqVP]
    |a cs=>exact hl cs
    |_=>simp [eqDn]
  cases s with
  |d x=>exact hD 4 x
  |own k v=>simp [eqSP]
  |ptr k v o=>simp [eqSP]
  |_=>simp [eqSP]
 have hL: ∀l,eqBP.go l l:=by intro l;induction l with
  |nil=>trivial
  |cons x xs ih=>exact ⟨hS x,ih⟩
 cases b with
 |row=>exact ⟨rfl,rfl,rfl,rfl,rfl⟩
 |box t cs=>exact ⟨rfl,hL cs⟩
 |_=>simp [eqBP]
theorem top64{h l:Nat}(hh:h<4294967296)(hl:l<4294967296):IntKind.u64.wrap (BitVec.toNat (BitVec.ofInt IntKind.u64.bits ((h:Int)%18446744073709551616*2^min (Int.toNat 32) IntKind.u64.bits%18446744073709551616)|||BitVec.ofInt IntKind.u64.bits ((l:Int)%18446744073709551616)))=((h*4294967296+l:Nat):Int):=by
 have e:((2:Int)^min (Int.toNat 32) IntKind.u64.bits)=4294967296:=by decide
 rw [e,show (h:Int)%18446744073709551616*4294967296%18446744073709551616=h*4294967296 from by omega,show (l:Int)%18446744073709551616=l from by omega]
 have:=or64 (h:=h) (l:=l) (by omega) (by omega)
 exact this.trans (by omega)
theorem top64r{r l:Nat}(hh:r<4294967296)(hl:l<4294967296):IntKind.u64.wrap (BitVec.toNat (BitVec.ofInt IntKind.u64.bits ((r:Int)*2^min (Int.toNat 32) IntKind.u64.bits%18446744073709551616)|||BitVec.ofInt IntKind.u64.bits ((l:Int)%18446744073709551616)))=((r*4294967296+l:Nat):Int):=by
 have:=top64 hh hl
 rwa [show (r:Int)%18446744073709551616=r by omega] at this
structure Dg (m R V i k s:Nat):Prop where
 hk:2≤k
 hm:i+k<m
 hms:m<4000000000000
 hV:V<4294967296^k
 hn:2147483648*4294967296^(k-1)≤V
 hlen:(ln V).length=k
 hs:R/4294967296^i=s
 hR:s<V*4294967296
section
variable {m R V i k s:Nat} (h:Dg m R V i k s)
include h
theorem Dg.ru:(us (dl m R)).length=m:=by rw [us_length,dl_length]
theorem Dg.lv:(us (ln V)).length=k:=by rw [us_length,h.hlen]
theorem Dg.U(j p:Nat)(hp:p=i+j)(hj:j≤k):(us (dl m R))[p]? =some (u32 ((s/4294967296^j%4294967296:Nat):Int)):=by
 subst hp
 have:=h.hm
 rw [←h.hs,Nat.div_div_eq_div_mul, ←Nat.pow_add]
 exact us_get (dl_get R (by omega))
theorem Dg.W(j p:Nat)(hp:p=j)(hj:j<k):(us (ln V))[p]? =some (u32 ((V/4294967296^j%4294967296:Nat):Int)):=by
 subst hp
 have:=h.hlen
 exact ul_get (by omega)
theorem Dg.st:2147483648≤V/4294967296^(k-1)∧V/4294967296^(k-1)<4294967296∧s/V<4294967296∧s/4294967296^(k-1)<(s/V+1)*(V/4294967296^(k-1)+1)∧s/V*(V/4294967296^(k-1))≤s/4294967296^(k-1)∧s/4294967296^(k-1)<18446744073709551616:=gs_start h.hV (by have:=h.hk;omega) h.hn h.hR
theorem Dg.v1:V/4294967296^(k-1)%4294967296=V/4294967296^(k-1):=Nat.mod_eq_of_lt h.st.2.1
theorem Dg.top:s/4294967296^k%4294967296*4294967296+s/4294967296^(k-1)%4294967296=s/4294967296^(k-1):=by
 have hk:=h.hk
 have h1:=div_step s (k-1)
 rw [show k-1+1=k by omega] at h1
 have h2:s/4294967296^k<4294967296:=by
  rw [Nat.div_lt_iff_lt_mul (bpos k),Nat.mul_comm]
  exact Nat.lt_of_lt_of_le h.hR (Nat.mul_le_mul_right _ (Nat.le_of_lt h.hV))
 omega
end
theorem mlt(n:Nat):n%4294967296<4294967296:=Nat.mod_lt _ (by omega)
def dg1(b0 b1 b3 b4 b5:B)(m R V i k:Nat)(g r:Nat):St:=⟨fr 194 [(0,.own 2 0),(1,.d (.l (us (ln V)))),(2,.d (i64 i)),(7,.d (i64 k)),(9,.d (u64 g)),(10,.d (u64 r))], [b0,b1,.row 0 171 1 4 (us (dl m R)),b3,b4,b5]⟩
def dg2(b0 b1 b3 b4 b5:B)(m R V i k:Nat)(g:Nat):St:=⟨fr 194 [(0,.own 2 0),(1,.d (.l (us (ln V)))),(2,.d (i64 i)),(7,.d (i64 k)),(9,.d (u64 g))], [b0,b1,.row 0 171 1 4 (us (dl m R)),b3,b4,b5]⟩
theorem digit1(b0 b1 b3 b4 b5:B){m R V i k s:Nat}(h:Dg m R V i k s){c:Code}(hc:Tryz.f300.body=some c)(K:Ex→St→Prop):
  goL Tryz.prog tbl (fun t=>false) ((fl c).take 4) ⟨fr 194 [(0,.own 2 0),(1,.d (.l (us (ln V)))),(2,.d (i64 i))], [b0,b1,.row 0 171 1 4 (us (dl m R)),b3,b4,b5]⟩
   (lpX (fun st'=> ∃p:Nat×Nat,(p.1*(V/4294967296^(k-1))+p.2=s/4294967296^(k-1)∧s/V≤p.1)∧Weak st' (dg1 b0 b1 b3 b4 b5 m R V i k p.1 p.2)) K):=by
 have hru:=h.ru
 have lv:=h.lv
 have hk:=h.hk
 have hm:=h.hm
 have hms:=h.hms
 obtain ⟨g1,g2,g3,g4,g5,g6⟩:=h.st
 cases hc
 conv=>whnf
 refine sd_d (by omega) ?_
 conv=>whnf
 refine sd_du (by omega) (us_uni _) ?_
 conv=>whnf
 refine rld_intro (i:=i+k) (r:=0) _ _ (h.U k _ rfl (by omega)) (by omega) (by omega) (us_uni _) rfl ?_
 conv=>whnf
 refine sd_d (by omega) ?_
 conv=>whnf
 refine sd_d (by omega) ?_
 conv=>whnf
 refine sd_d (by omega) ?_
 conv=>whnf
 refine sd_du (by omega) (us_uni _) ?_
 conv=>whnf
 refine rld_intro (i:=i+(k-1)) (r:=0) _ _ (h.U (k-1) _ rfl (by omega)) (by omega) (by omega) (us_uni _) rfl ?_
 conv=>whnf
 rw [top64 (mlt _) (mlt _),h.top]
 refine safe_intro (by kernel_rfl) ?_
 conv=>whnf
 refine sd_d (by omega) ?_
 conv=>whnf
 refine idx_intro _ (h.W (k-1) _ (by omega) (by omega)) (by omega) (us_uni _) ?_
 conv=>whnf
 rw [h.v1]
 refine sd_d (by omega) ?_
 conv=>whnf
 refine sd_d (by omega) ?_
 conv=>whnf
 refine idx_intro _ (h.W (k-1) _ (by omega) (by omega)) (by omega) (us_uni _) ?_
 conv=>whnf
 rw [h.v1]
 refine sd_d (by omega) ?_
 conv=>whnf
 refine safe_intro (by kernel_rfl) ?_
 conv=>whnf
 generalize hX:V/4294967296^(k-1)=x at*
 generalize hT:s/4294967296^(k-1)=top at*
 have e1:((top:Int):Int).tdiv ((x:Int)%18446744073709551616)=((top/x:Nat):Int):=by
  rw [show (x:Int)%18446744073709551616=x by omega,Int.tdiv_eq_ediv_of_nonneg (by omega)];rfl
 have e2:((top:Int):Int).tmod ((x:Int)%18446744073709551616)=((top%x:Nat):Int):=by
  rw [show (x:Int)%18446744073709551616=x by omega,Int.tmod_eq_emod_of_nonneg (by omega)];rfl
 have d1:=Nat.div_le_self top x
 have d2:=Nat.mod_le top x
 refine ⟨(top/x,top%x),⟨?_, ?_⟩, ?_⟩
 ·rw [Nat.mul_comm];exact Nat.div_add_mod top x
 ·show s/V≤top/x
  rw [Nat.le_div_iff_mul_le (by omega)];exact g5
 ·refine weak_x ⟨eqBP_refl _,eqBP_refl _,⟨rfl,rfl,rfl,rfl,rfl⟩,eqBP_refl _,eqBP_refl _,eqBP_refl _,trivial⟩ ⟨trivial,rfl,rfl, ?_, ?_, ?_,trivial⟩
  ·conv=>whnf
   omega
  ·conv=>whnf
   rw [e1];clear e1 e2;generalize top/x=y at*;exact Int.emod_eq_of_lt (by omega) (by omega)
  ·conv=>whnf
   rw [e2]
end Go.Nv
end
