import Derived.Laws.Strings
import Derived.Test.YtdjbkccoofcnjaaGreatNvC2
import Derived.Test.YtdjbkccoofcnjaaGreatNvP3
set_option linter.all false
set_option maxRecDepth 100000
section
namespace Go.Nv
open Go.Proofs Nw
theorem rtrim_c(s0:ByteArray):Fun Tryz.prog 315 [.v (.string s0)] [.v (.string (nb (bv s0)))] :=by
 refine fun_of_go (fun t=>false) mixed tOk Tryz.func315 rfl rfl ?_
 conv=>whnf
 refine loop_intro (fun t=>false) (fun s:ByteArray=>⟨fr 14 [(0,.d (.v (.string s))),(2,.d (.v (.string ⟨#[]⟩)))], []⟩) (fun s=>bv s=bv s0) (fun s=>s.size) s0 mixed tOk rfl (weak_x trivial ⟨rfl,rfl,trivial⟩) ?_
 intro s hs
 conv=>whnf
 refine cond_d (fun h=> ?_) (fun h=> ?_)
 ·conv=>whnf
  have h1:0<s.data.toList.length:=by simpa using h
  rcases s with ⟨⟨l⟩⟩
  cases l with
  |nil=>simp at h1
  |cons x l=>
   have hsz:(ByteArray.mk ⟨x::l⟩).size=l.length+1:=rfl
   have hb:bt (ByteArray.mk ⟨x::l⟩) 0=x.toNat:=by simp [bt,hsz];rfl
   refine sd_d ⟨by omega,by rw [hsz];omega⟩ ?_
   conv=>whnf
   refine cond_e (fun h2=> ?_) (fun h2=> ?_)
   ·have hx:x=0:=by rw [hb] at h2;exact UInt8.toNat_inj.1 (by simpa using h2)
    conv=>whnf
    refine sd_d ⟨by omega,by rw [hsz];omega,by omega⟩ ?_
    have he:(ByteArray.mk ⟨x::l⟩).extract 1 (ByteArray.mk ⟨x::l⟩).size=⟨⟨l⟩⟩:=by
     rw [hsz];exact extract_cons x l _ rfl
    refine ⟨⟨⟨l⟩⟩, ?_, ?_, ?_⟩
    ·rw [←hs];simp [bv,bvl_cons,hx]
    ·rw [hsz];exact Nat.lt_succ_self _
    ·refine weak_x trivial ⟨?_,rfl,trivial⟩
     exact he
   ·have hx:x≠0:=by intro hx;subst hx;exact h2 hb
    conv=>whnf
    refine ⟨?_,trivial⟩
    conv=>whnf
    rw [←hs]
    show (_:ByteArray)=⟨(nbl (bvl (x::l))).toArray⟩
    rw [nbl_bvl_nz x hx]
 ·conv=>whnf
  refine ⟨?_,trivial⟩
  conv=>whnf
  have:s=⟨#[]⟩:=by
   rcases s with ⟨⟨l⟩⟩
   cases l with
   |nil=>rfl
   |cons x l=>exact absurd (by show (0:Int)<((l.length+1:Nat):Int);omega) h
  rw [←hs,this]
  rfl
theorem zD_sg(n:Bool)(a:Nat):zD (sg n a)=intD (n&& !(nb a==(⟨#[]⟩:ByteArray))) (nb a):=by
 unfold zD intD
 rw [ng_sg,sg_abs]
theorem zcanon_c(n:Bool)(s:ByteArray):Fun Tryz.prog 255 [intD n s] [zD (sg n (bv s))] :=by
 have hf:Fun Tryz.prog 255 [intD n s] [intD (n&& !(nb (bv s)==(⟨#[]⟩:ByteArray))) (nb (bv s))] :=by
  refine fun_of_go (fun t=>false) mixed tOk Tryz.func255 rfl rfl ?_
  conv=>whnf
  refine cond_d (fun h=> ?_) (fun h=> ?_)
  ·conv=>whnf
   rcases s with ⟨⟨l⟩⟩
   cases l with
   |nil=>exact absurd h (by show¬(0:Int)<((0:Nat):Int);omega)
   |cons x l=>
    have hsz:(ByteArray.mk ⟨x::l⟩).size=l.length+1:=rfl
    have hb:bt (ByteArray.mk ⟨x::l⟩) 0=x.toNat:=by simp [bt,hsz];rfl
    refine sd_d ⟨by omega,by rw [hsz];omega⟩ ?_
    conv=>whnf
    refine cond_ne (fun h2=> ?_) (fun h2=> ?_)
    ·have hx:x≠0:=by intro hx;subst hx;exact h2 hb
     conv=>whnf
     refine ⟨?_,trivial⟩
     have e:nb (bv ⟨⟨x::l⟩⟩)=⟨⟨x::l⟩⟩:=by
      show (⟨(nbl (bvl (x::l))).toArray⟩:ByteArray)=_
      rw [nbl_bvl_nz x hx]
     have e0:(nb (bv ⟨⟨x::l⟩⟩)==(⟨#[]⟩:ByteArray))=false:=by rw [e];rfl
     rw [e0,e]
     conv=>whnf
     refine ⟨?_,rfl,trivial⟩
     conv=>whnf
     simp
    ·conv=>whnf
     refine call_data rfl rfl (rtrim_c _) ?_
     cases n
     ·conv=>whnf
      exact ⟨⟨rfl,rfl,trivial⟩,trivial⟩
     ·conv=>whnf
      refine ⟨⟨?_,rfl,trivial⟩,trivial⟩
      conv=>whnf
      rw [bz_eq];rfl
  ·conv=>whnf
   refine call_data rfl rfl (rtrim_c _) ?_
   cases n
   ·conv=>whnf
    exact ⟨⟨rfl,rfl,trivial⟩,trivial⟩
   ·conv=>whnf
    refine ⟨⟨?_,rfl,trivial⟩,trivial⟩
    conv=>whnf
    rw [bz_eq];rfl
 rw [zD_sg];exact hf
theorem rsmall_c(s:ByteArray)(hs:s.size≤7):Fun Tryz.prog 317 [.v (.string s)] [i64 (bv s)] :=by
 refine fun_of_go (fun t=>false) mixed tOk Tryz.func317 rfl rfl ?_
 conv=>whnf
 refine loop_intro (fun t=>false) (fun i:Nat=>⟨fr 19 [(0,.d (.v (.string s))),(2,.d (i64 0)),(3,.d (i64 (pre s i))),(4,.d (i64 i))], []⟩) (fun i=>i≤s.size) (fun i=>s.size-i) 0 mixed tOk (Nat.zero_le _) ?_ ?_
 ·refine weak_r trivial ⟨rfl,rfl, ?_,rfl,trivial⟩
  conv=>whnf
  rw [pre_zero];rfl
 ·intro i hi
  conv=>whnf
  refine cond_d (fun h2=> ?_) (fun h2=> ?_)<;>conv=>whnf
  ·obtain ⟨p1,p2⟩:=pre_step s i (by omega)
   have hp:=p54 (s:=s) (i:=i) (by omega) hs
   have h8:=sh8 (pre s i)
   refine sd_dd (by omega) (by omega) ?_
   conv=>whnf
   refine sd_d (by omega) ?_
   conv=>whnf
   generalize s.data.toList[i]'_=b at p1 p2
   have hb:=b.toNat_lt
   refine sd_d (by rw [p1];omega) ?_
   conv=>whnf
   refine sd_d (by omega) ?_
   conv=>whnf
   refine ⟨i+1,by omega,by omega,weak_r trivial ⟨rfl,rfl, ?_,rfl,trivial⟩⟩
   conv=>whnf
   rw [p1,p2,h8]
   exact or_i64 _ _ (by omega) hp
  ·have hi2:i=s.size:=by omega
   refine ⟨?_,trivial⟩
   conv=>whnf
   rw [hi2,pre_all]
theorem rvalue_c(n:Bool)(s:ByteArray)(hs:s.size≤7):Fun Tryz.prog 256 [intD n s] [i64 (sg n (bv s))] :=by
 have hb:=sg_small (n:=n) hs
 refine fun_of_go (fun t=>false) mixed tOk Tryz.func256 rfl rfl ?_
 conv=>whnf
 cases n
 ·conv=>whnf
  refine call_data rfl rfl (rsmall_c s hs) ?_
  conv=>whnf
  exact ⟨rfl,trivial⟩
 ·conv=>whnf
  refine call_data rfl rfl (rsmall_c s hs) ?_
  conv=>whnf
  refine sd_d (by simp only [sg] at hb;simp at hb;omega) ?_
  conv=>whnf
  refine ⟨?_,trivial⟩
  conv=>whnf
  simp [sg]
theorem toList_mk(l:List UInt8):(ByteArray.mk ⟨l⟩).toList=l:=ByteArray.toList_eq _
theorem less_bvl: ∀(x y:List UInt8),x.length=y.length→Op.bytesLess x y=decide (bvl x<bvl y)
 | [], [],_=>by simp [Op.bytesLess]
 |a::x,b::y,h=>by
  have h':x.length=y.length:=by simpa using h
  have ih:=less_bvl x y h'
  have l1:=bvl_lt x
  have l2:=bvl_lt y
  rw [←h'] at l2
  rw [bvl_cons,bvl_cons, ←h']
  show (decide (a<b)||(a==b&&Op.bytesLess x y))=_
  rw [ih]
  generalize 256^x.length=p at*
  rcases Nat.lt_trichotomy a.toNat b.toNat with c|c|c
  ·have e1:a<b:=c
   have:a.toNat*p+p≤b.toNat*p:=by rw [←Nat.succ_mul];exact Nat.mul_le_mul_right p c
   simp [e1];omega
  ·have e1:a=b:=UInt8.toNat_inj.1 c
   subst e1
   have e2: ¬a<a:=fun hh=>by have:a.toNat<a.toNat:=hh;omega
   simp [e2]
  ·have e1: ¬a<b:=fun hh=>by have:a.toNat<b.toNat:=hh;omega
   have e2:(a==b)=false:=by
    rw [beq_eq_false_iff_ne];intro hh;subst hh;omega
   have:b.toNat*p+p≤a.toNat*p:=by rw [←Nat.succ_mul];exact Nat.mul_le_mul_right p c
   simp [e1,e2];omega
theorem nb_lt{a b:Nat}(h:(nb a).size<(nb b).size):a<b:=by
 rw [nb_size,nb_size] at h
 refine Classical.byContradiction fun hn=> ?_
 have h1:=bvl_lt (nbl a)
 rw [bvl_nbl] at h1
 have:=nbl_length_le (show b<256^(nbl a).length by omega)
 omega
theorem less_nb{a b:Nat}(h:(nb a).size=(nb b).size):Op.bytesLess (nb a).toList (nb b).toList=decide (a<b):=by
 rw [nb_size,nb_size] at h
 have e: ∀n,(nb n).toList=nbl n:=fun n=>toList_mk _
 rw [e,e,less_bvl _ _ h,bvl_nbl,bvl_nbl]
theorem rcmp_c(a b:Nat):Fun Tryz.prog 258 [.v (.string (nb a)),.v (.string (nb b))] [i64 (cmpN a b)] :=by
 refine fun_of_go (fun t=>false) mixed tOk Tryz.func258 rfl rfl ?_
 conv=>whnf
 refine cond_ne (fun h=> ?_) (fun h=> ?_)<;>conv=>whnf
 ·refine cond_d (fun h2=> ?_) (fun h2=> ?_)<;>conv=>whnf
  ·have:=nb_lt (show (nb a).size<(nb b).size by omega)
   refine ⟨?_,trivial⟩
   conv=>whnf
   simp [cmpN,this]
  ·have:=nb_lt (show (nb b).size<(nb a).size by omega)
   refine ⟨?_,trivial⟩
   conv=>whnf
   rw [cmpN,if_neg (by omega),if_pos this]
 ·have hs:(nb a).size=(nb b).size:=by omega
  have g1:=less_nb hs
  refine cond_b (fun h2=> ?_) (fun h2=> ?_)<;>conv=>whnf
  ·rw [g1] at h2
   refine ⟨?_,trivial⟩
   conv=>whnf
   rw [cmpN,if_pos (by simpa using h2)]
  ·refine cond_b (fun h3=> ?_) (fun h3=> ?_)<;>conv=>whnf
   ·rw [g1,byt_beq] at h3
    rw [g1] at h2
    refine ⟨?_,trivial⟩
    conv=>whnf
    simp at h2 h3
    have:b≠a:=fun hh=>h3.2 (by rw [hh])
    rw [cmpN,if_neg (by omega),if_pos (by omega)]
   ·rw [g1,byt_beq] at h3
    rw [g1] at h2
    refine ⟨?_,trivial⟩
    conv=>whnf
    simp at h2 h3
    have:a=b:=by
     exact nb_inj (h3 (by omega))
    rw [cmpN,if_neg (by omega),if_neg (by omega)]
theorem rneg_c(n:Bool)(s:ByteArray):Fun Tryz.prog 252 [intD n s] [zD (-(sg n (bv s)))] :=by
 have e:zD (-(sg n (bv s)))=intD (!(ng (sg n (bv s)))&& !(nb (bv s)==(⟨#[]⟩:ByteArray))) (nb (bv s)):=by
  have:=zD_sg (!(ng (sg n (bv s)))) (bv s)
  rw [←this]
  congr 1
  rw [ng_eq];unfold sg
  cases n<;>by_cases h:bv s=0<;>simp [h]
 have e2:zD (sg n (bv s))=intD (ng (sg n (bv s))) (nb (bv s)):=by
  unfold zD intD;rw [sg_abs]
 have hc:=zcanon_c n s
 rw [e2] at hc
 rw [e]
 generalize ng (sg n (bv s))=z at*
 cases z
 ·refine fun_of_go (fun t=>(t==1)) mixed tOk Tryz.func252 rfl rfl ?_
  conv=>whnf
  refine call_data rfl rfl hc ?_
  conv=>whnf
  refine ⟨⟨?_,rfl,trivial⟩,trivial⟩
  conv=>whnf
  rw [bz_eq];rfl
 ·refine fun_of_go (fun t=>(t==1)) mixed tOk Tryz.func252 rfl rfl ?_
  conv=>whnf
  refine call_data rfl rfl hc ?_
  conv=>whnf
  exact ⟨⟨rfl,rfl,trivial⟩,trivial⟩
theorem fd8(n:Nat):Int.fdiv (n:Int) (2^min ((8:Int).toNat) IntKind.i64.bits)=((n/256:Nat):Int):=by
 have:((2:Int)^min (Int.toNat 8) IntKind.i64.bits)=256:=by decide
 rw [this,Int.fdiv_eq_ediv_of_nonneg _ (by omega)];omega
def u8D(x:Int):S:= .d (.v (.int .u8 x))
def bx8(f:Nat→UInt8):List S:= [u8D (f 0).toNat,u8D (f 1).toNat,u8D (f 2).toNat,u8D (f 3).toNat,u8D (f 4).toNat,u8D (f 5).toNat,u8D (f 6).toNat,u8D (f 7).toNat]
def lx8(f:Nat→UInt8):List D:= [.v (.int .u8 (f 0).toNat),.v (.int .u8 (f 1).toNat),.v (.int .u8 (f 2).toNat),.v (.int .u8 (f 3).toNat),.v (.int .u8 (f 4).toNat),.v (.int .u8 (f 5).toNat),.v (.int .u8 (f 6).toNat),.v (.int .u8 (f 7).toNat)]
theorem all8(f:Nat→UInt8)(a b:Nat):allU8B (subL (lx8 f) a b)=true:=by
 rw [allU8B_eq]
 intro x hx
 have:x∈lx8 f:=by
  unfold subL at hx
  first|exact List.mem_of_mem_drop (List.mem_of_mem_take hx)|exact List.mem_of_mem_take (List.mem_of_mem_drop hx)
 simp only [lx8,List.mem_cons,List.not_mem_nil,or_false] at this
 rcases this with h|h|h|h|h|h|h|h<;>exact ⟨_,h⟩
theorem rmag_c(n0:Int)(h0:0≤n0)(h1:n0≤9223372036854775807):Fun Tryz.prog 278 [i64 n0] [.v (.string (nb n0.toNat))] :=by
 refine fun_of_go (fun t=>false) mixed tOk Tryz.func278 rfl rfl ?_
 conv=>whnf
 refine cond_d (fun h=> ?_) (fun h=> ?_)<;>conv=>whnf
 ·refine cond_d (fun h2=> ?_) (fun h2=> ?_)<;>conv=>whnf
  ·refine ⟨?_,trivial⟩
   conv=>whnf
   rw [h2];rfl
  ·refine sd_intro (by rw [allU8B_eq];intro x hx;simp at hx;exact ⟨_,hx⟩) ?_
   conv=>whnf
   refine ⟨?_,trivial⟩
   conv=>whnf
   have e1:nb n0.toNat=⟨#[UInt8.ofNat (n0.toNat%256)]⟩:=by
    show (⟨(nbl n0.toNat).toArray⟩:ByteArray)=_
    rw [nbl_pos (by omega),show n0.toNat/256=0 by omega,nbl_zero];rfl
   rw [e1]
   have e2:(n0%256).toNat=n0.toNat%256:=by omega
   rw [←e2];rfl
 ·refine loop_intro (fun t=>false) (fun x:Nat×(Nat→UInt8)×Nat=>⟨fr 26 [(0,.d (i64 (x.1:Int))),(2,.d (.v (.string ⟨#[]⟩))),(3,.ptr 0 0 0),(4,.d (i64 (x.2.2:Int)))], [.box 246 (bx8 x.2.1)]⟩)
   (fun x=>x.2.2≤8∧x.1≤n0.toNat∧x.1<256^x.2.2∧nbl n0.toNat=nbl x.1++(List.range' x.2.2 (8-x.2.2)).map x.2.1)
   (fun x=>x.2.2) (n0.toNat,(fun _=>0),8) mixed tOk ?_ ?_ ?_
  ·refine ⟨Nat.le_refl _,Nat.le_refl _, ?_,by simp⟩
   show n0.toNat<256^8
   have:(256:Nat)^8=18446744073709551616:=rfl
   omega
  ·refine weak_r ⟨⟨rfl, ?_⟩,trivial⟩ ⟨?_,rfl,rfl,rfl,trivial⟩
   ·exact ⟨rfl,rfl,rfl,rfl,rfl,rfl,rfl,rfl,trivial⟩
   conv=>whnf
   omega
  ·rintro ⟨m,f,i⟩ ⟨i1,i0,i2,i3⟩
   simp only at i0 i1 i2 i3
   have h63:(m:Int)≤9223372036854775807:=by omega
   have i4:m≠0→1≤i:=fun hm=>by
    rcases Nat.eq_zero_or_pos i with rfl|h
    ·simp at i2;omega
    ·exact h
   rcases (show i=0∨i=1∨i=2∨i=3∨i=4∨i=5∨i=6∨i=7∨i=8 by omega) with rfl|rfl|rfl|rfl|rfl|rfl|rfl|rfl|rfl
   ·have m0:m=0:=by simp at i2;omega
    subst m0
    conv=>whnf
    refine cond_df (by simp) ?_
    conv=>whnf
    refine sd_d ⟨by simp only;omega,by simp only;omega,by omega,by unfold maxLen;omega⟩ ?_
    conv=>whnf
    refine sd_intro (all8 f _ _) ?_
    conv=>whnf
    refine ⟨?_,trivial⟩
    conv=>whnf
    show (_:ByteArray)=⟨(nbl n0.toNat).toArray⟩
    rw [i3,nbl_zero]
    simp [bytS,subL,List.range',List.drop]
   ·conv=>whnf
    refine cond_d (fun h2=> ?_) (fun h2=> ?_)<;>conv=>whnf
    ·have h3:0<m:=by simp only at h2;omega
     refine sd_d (by simp only;omega) ?_
     conv=>whnf
     refine sd_d (by simp only;omega) ?_
     conv=>whnf
     refine sd_d (by omega) ?_
     conv=>whnf
     refine ⟨(m/256,(fun j=>if j=0 then UInt8.ofNat (m%256) else f j),0),⟨by simp only;omega,by simp only;omega,by simp only;omega, ?_⟩,by simp only;omega, ?_⟩
     ·simp only
      rw [i3,nbl_pos (by omega)]
      simp [List.range']
     ·refine weak_r ⟨⟨rfl, ?_⟩,trivial⟩ ⟨?_,rfl,rfl,rfl,trivial⟩
      ·refine ⟨?_, ?_, ?_, ?_, ?_, ?_, ?_, ?_,trivial⟩<;>first|rfl|((conv=>whnf)<;>simp)
      ·conv=>whnf
       exact fd8 m
    ·have m0:m=0:=by simp only at h2;omega
     subst m0
     refine sd_d ⟨by simp only;omega,by simp only;omega,by omega,by unfold maxLen;omega⟩ ?_
     conv=>whnf
     refine sd_intro (all8 f _ _) ?_
     conv=>whnf
     refine ⟨?_,trivial⟩
     conv=>whnf
     show (_:ByteArray)=⟨(nbl n0.toNat).toArray⟩
     rw [i3,nbl_zero]
     simp [bytS,subL,List.range',List.drop]
   ·conv=>whnf
    refine cond_d (fun h2=> ?_) (fun h2=> ?_)<;>conv=>whnf
    ·have h3:0<m:=by simp only at h2;omega
     refine sd_d (by simp only;omega) ?_
     conv=>whnf
     refine sd_d (by simp only;omega) ?_
     conv=>whnf
     refine sd_d (by omega) ?_
     conv=>whnf
     refine ⟨(m/256,(fun j=>if j=1 then UInt8.ofNat (m%256) else f j),1),⟨by simp only;omega,by simp only;omega,by simp only;omega, ?_⟩,by simp only;omega, ?_⟩
     ·simp only
      rw [i3,nbl_pos (by omega)]
      simp [List.range']
     ·refine weak_r ⟨⟨rfl, ?_⟩,trivial⟩ ⟨?_,rfl,rfl,rfl,trivial⟩
      ·refine ⟨?_, ?_, ?_, ?_, ?_, ?_, ?_, ?_,trivial⟩<;>first|rfl|((conv=>whnf)<;>simp)
      ·conv=>whnf
       exact fd8 m
    ·have m0:m=0:=by simp only at h2;omega
     subst m0
     refine sd_d ⟨by simp only;omega,by simp only;omega,by omega,by unfold maxLen;omega⟩ ?_
     conv=>whnf
     refine sd_intro (all8 f _ _) ?_
     conv=>whnf
     refine ⟨?_,trivial⟩
     conv=>whnf
     show (_:ByteArray)=⟨(nbl n0.toNat).toArray⟩
     rw [i3,nbl_zero]
     simp [bytS,subL,List.range',List.drop]
   ·conv=>whnf
    refine cond_d (fun h2=> ?_) (fun h2=> ?_)<;>conv=>whnf
    ·have h3:0<m:=by simp only at h2;omega
     refine sd_d (by simp only;omega) ?_
     conv=>whnf
     refine sd_d (by simp only;omega) ?_
     conv=>whnf
     refine sd_d (by omega) ?_
     conv=>whnf
     refine ⟨(m/256,(fun j=>if j=2 then UInt8.ofNat (m%256) else f j),2),⟨by simp only;omega,by simp only;omega,by simp only;omega, ?_⟩,by simp only;omega, ?_⟩
     ·simp only
      rw [i3,nbl_pos (by omega)]
      simp [List.range']
     ·refine weak_r ⟨⟨rfl, ?_⟩,trivial⟩ ⟨?_,rfl,rfl,rfl,trivial⟩
      ·refine ⟨?_, ?_, ?_, ?_, ?_, ?_, ?_, ?_,trivial⟩<;>first|rfl|((conv=>whnf)<;>simp)
      ·conv=>whnf
       exact fd8 m
    ·have m0:m=0:=by simp only at h2;omega
     subst m0
     refine sd_d ⟨by simp only;omega,by simp only;omega,by omega,by unfold maxLen;omega⟩ ?_
     conv=>whnf
     refine sd_intro (all8 f _ _) ?_
     conv=>whnf
     refine ⟨?_,trivial⟩
     conv=>whnf
     show (_:ByteArray)=⟨(nbl n0.toNat).toArray⟩
     rw [i3,nbl_zero]
     simp [bytS,subL,List.range',List.drop]
   ·conv=>whnf
    refine cond_d (fun h2=> ?_) (fun h2=> ?_)<;>conv=>whnf
    ·have h3:0<m:=by simp only at h2;omega
     refine sd_d (by simp only;omega) ?_
     conv=>whnf
     refine sd_d (by simp only;omega) ?_
     conv=>whnf
     refine sd_d (by omega) ?_
     conv=>whnf
     refine ⟨(m/256,(fun j=>if j=3 then UInt8.ofNat (m%256) else f j),3),⟨by simp only;omega,by simp only;omega,by simp only;omega, ?_⟩,by simp only;omega, ?_⟩
     ·simp only
      rw [i3,nbl_pos (by omega)]
      simp [List.range']
     ·refine weak_r ⟨⟨rfl, ?_⟩,trivial⟩ ⟨?_,rfl,rfl,rfl,trivial⟩
      ·refine ⟨?_, ?_, ?_, ?_, ?_, ?_, ?_, ?_,trivial⟩<;>first|rfl|((conv=>whnf)<;>simp)
      ·conv=>whnf
       exact fd8 m
    ·have m0:m=0:=by simp only at h2;omega
     subst m0
     refine sd_d ⟨by simp only;omega,by simp only;omega,by omega,by unfold maxLen;omega⟩ ?_
     conv=>whnf
     refine sd_intro (all8 f _ _) ?_
     conv=>whnf
     refine ⟨?_,trivial⟩
     conv=>whnf
     show (_:ByteArray)=⟨(nbl n0.toNat).toArray⟩
     rw [i3,nbl_zero]
     simp [bytS,subL,List.range',List.drop]
   ·conv=>whnf
    refine cond_d (fun h2=> ?_) (fun h2=> ?_)<;>conv=>whnf
    ·have h3:0<m:=by simp only at h2;omega
     refine sd_d (by simp only;omega) ?_
     conv=>whnf
     refine sd_d (by simp only;omega) ?_
     conv=>whnf
     refine sd_d (by omega) ?_
     conv=>whnf
     refine ⟨(m/256,(fun j=>if j=4 then UInt8.ofNat (m%256) else f j),4),⟨by simp only;omega,by simp only;omega,by simp only;omega, ?_⟩,by simp only;omega, ?_⟩
     ·simp only
      rw [i3,nbl_pos (by omega)]
      simp [List.range']
     ·refine weak_r ⟨⟨rfl, ?_⟩,trivial⟩ ⟨?_,rfl,rfl,rfl,trivial⟩
      ·refine ⟨?_, ?_, ?_, ?_, ?_, ?_, ?_, ?_,trivial⟩<;>first|rfl|((conv=>whnf)<;>simp)
      ·conv=>whnf
       exact fd8 m
    ·have m0:m=0:=by simp only at h2;omega
     subst m0
     refine sd_d ⟨by simp only;omega,by simp only;omega,by omega,by unfold maxLen;omega⟩ ?_
     conv=>whnf
     refine sd_intro (all8 f _ _) ?_
     conv=>whnf
     refine ⟨?_,trivial⟩
     conv=>whnf
     show (_:ByteArray)=⟨(nbl n0.toNat).toArray⟩
     rw [i3,nbl_zero]
     simp [bytS,subL,List.range',List.drop]
   ·conv=>whnf
    refine cond_d (fun h2=> ?_) (fun h2=> ?_)<;>conv=>whnf
    ·have h3:0<m:=by simp only at h2;omega
     refine sd_d (by simp only;omega) ?_
     conv=>whnf
     refine sd_d (by simp only;omega) ?_
     conv=>whnf
     refine sd_d (by omega) ?_
     conv=>whnf
     refine ⟨(m/256,(fun j=>if j=5 then UInt8.ofNat (m%256) else f j),5),⟨by simp only;omega,by simp only;omega,by simp only;omega, ?_⟩,by simp only;omega, ?_⟩
     ·simp only
      rw [i3,nbl_pos (by omega)]
      simp [List.range']
     ·refine weak_r ⟨⟨rfl, ?_⟩,trivial⟩ ⟨?_,rfl,rfl,rfl,trivial⟩
      ·refine ⟨?_, ?_, ?_, ?_, ?_, ?_, ?_, ?_,trivial⟩<;>first|rfl|((conv=>whnf)<;>simp)
      ·conv=>whnf
       exact fd8 m
    ·have m0:m=0:=by simp only at h2;omega
     subst m0
     refine sd_d ⟨by simp only;omega,by simp only;omega,by omega,by unfold maxLen;omega⟩ ?_
     conv=>whnf
     refine sd_intro (all8 f _ _) ?_
     conv=>whnf
     refine ⟨?_,trivial⟩
     conv=>whnf
     show (_:ByteArray)=⟨(nbl n0.toNat).toArray⟩
     rw [i3,nbl_zero]
     simp [bytS,subL,List.range',List.drop]
   ·conv=>whnf
    refine cond_d (fun h2=> ?_) (fun h2=> ?_)<;>conv=>whnf
    ·have h3:0<m:=by simp only at h2;omega
     refine sd_d (by simp only;omega) ?_
     conv=>whnf
     refine sd_d (by simp only;omega) ?_
     conv=>whnf
     refine sd_d (by omega) ?_
     conv=>whnf
     refine ⟨(m/256,(fun j=>if j=6 then UInt8.ofNat (m%256) else f j),6),⟨by simp only;omega,by simp only;omega,by simp only;omega, ?_⟩,by simp only;omega, ?_⟩
     ·simp only
      rw [i3,nbl_pos (by omega)]
      simp [List.range']
     ·refine weak_r ⟨⟨rfl, ?_⟩,trivial⟩ ⟨?_,rfl,rfl,rfl,trivial⟩
      ·refine ⟨?_, ?_, ?_, ?_, ?_, ?_, ?_, ?_,trivial⟩<;>first|rfl|((conv=>whnf)<;>simp)
      ·conv=>whnf
       exact fd8 m
    ·have m0:m=0:=by simp only at h2;omega
     subst m0
     refine sd_d ⟨by simp only;omega,by simp only;omega,by omega,by unfold maxLen;omega⟩ ?_
     conv=>whnf
     refine sd_intro (all8 f _ _) ?_
     conv=>whnf
     refine ⟨?_,trivial⟩
     conv=>whnf
     show (_:ByteArray)=⟨(nbl n0.toNat).toArray⟩
     rw [i3,nbl_zero]
     simp [bytS,subL,List.range',List.drop]
   ·conv=>whnf
    refine cond_d (fun h2=> ?_) (fun h2=> ?_)<;>conv=>whnf
    ·have h3:0<m:=by simp only at h2;omega
     refine sd_d (by simp only;omega) ?_
     conv=>whnf
     refine sd_d (by simp only;omega) ?_
     conv=>whnf
     refine sd_d (by omega) ?_
     conv=>whnf
     refine ⟨(m/256,(fun j=>if j=7 then UInt8.ofNat (m%256) else f j),7),⟨by simp only;omega,by simp only;omega,by simp only;omega, ?_⟩,by simp only;omega, ?_⟩
     ·simp only
      rw [i3,nbl_pos (by omega)]
      simp [List.range']
     ·refine weak_r ⟨⟨rfl, ?_⟩,trivial⟩ ⟨?_,rfl,rfl,rfl,trivial⟩
      ·refine ⟨?_, ?_, ?_, ?_, ?_, ?_, ?_, ?_,trivial⟩<;>first|rfl|((conv=>whnf)<;>simp)
      ·conv=>whnf
       exact fd8 m
    ·have m0:m=0:=by simp only at h2;omega
     subst m0
     refine sd_d ⟨by simp only;omega,by simp only;omega,by omega,by unfold maxLen;omega⟩ ?_
     conv=>whnf
     refine sd_intro (all8 f _ _) ?_
     conv=>whnf
     refine ⟨?_,trivial⟩
     conv=>whnf
     show (_:ByteArray)=⟨(nbl n0.toNat).toArray⟩
     rw [i3,nbl_zero]
     simp [bytS,subL,List.range',List.drop]
theorem rof_c(n:Int)(h: -9223372036854775808<n∧n≤9223372036854775807):Fun Tryz.prog 201 [i64 n] [zD n] :=by
 have e:zD n=intD (decide (n<0)) (nb n.natAbs):=by unfold zD intD;rw [ng_eq]
 rw [e]
 refine fun_of_go (fun t=>false) mixed tOk Tryz.func201 rfl rfl ?_
 conv=>whnf
 refine cond_d (fun h2=> ?_) (fun h2=> ?_)<;>conv=>whnf
 ·refine call_data rfl rfl (rmag_c n (by omega) (by omega)) ?_
  conv=>whnf
  refine ⟨⟨?_, ?_,trivial⟩,trivial⟩
  ·conv=>whnf
   simp;omega
  ·conv=>whnf
   rw [show n.toNat=n.natAbs by omega]
 ·refine sd_d (by omega) ?_
  conv=>whnf
  refine cond_e (fun h3=> ?_) (fun h3=> ?_)<;>conv=>whnf
  ·omega
  ·refine sd_d (by omega) ?_
   conv=>whnf
   refine call_data rfl rfl (rmag_c (0-n) (by omega) (by omega)) ?_
   conv=>whnf
   refine ⟨⟨?_, ?_,trivial⟩,trivial⟩
   ·conv=>whnf
    simp;omega
   ·conv=>whnf
    rw [show (0-n).toNat=n.natAbs by omega]
def bd(m v:Nat):List UInt8:=(N8.dl m v).reverse.map UInt8.ofNat
theorem bd_length(m v:Nat):(bd m v).length=m:=by simp [bd,N8.dl_length]
theorem bvl_rev: ∀(l:List Nat),N8.Lim l→bvl (l.reverse.map UInt8.ofNat)=N8.lv l
 | [],_=>rfl
 |x::l,h=>by
  have hx:=h x (List.mem_cons_self ..)
  have ih:=bvl_rev l fun y hy=>h y (List.mem_cons_of_mem _ hy)
  rw [List.reverse_cons,List.map_append,List.map_cons,List.map_nil,bvl_snoc,ih,N8.lv]
  simp only [UInt8.toNat_ofNat']
  omega
theorem bvl_bd(m v:Nat):bvl (bd m v)=v%256^m:=by
 unfold bd;rw [bvl_rev _ (N8.lim_dl m v),N8.lv_dl]
theorem bd_zero(m:Nat):bd m 0=List.replicate m 0:=by
 unfold bd;rw [N8.dl_zero];simp
theorem bd_get{m j:Nat}(v:Nat)(h:j<m):(bd m v)[m-1-j]? =some (UInt8.ofNat (v/256^j%256)):=by
 unfold bd
 rw [List.getElem?_map,List.getElem?_reverse (by rw [N8.dl_length];omega),N8.dl_length,show m-1-(m-1-j)=j by omega,N8.dl_get v h]
 rfl
theorem set_rev(l:List Nat)(j d:Nat)(h:j<l.length):(l.reverse.map UInt8.ofNat).set (l.length-1-j) (UInt8.ofNat d)=((l.set j d).reverse).map UInt8.ofNat:=by
 apply List.ext_getElem?
 intro i
 rw [List.getElem?_set,List.getElem?_map,List.getElem?_map]
 simp only [List.length_map,List.length_reverse]
 by_cases hi:i<l.length
 ·rw [List.getElem?_reverse hi,List.getElem?_reverse (by simpa using hi),List.getElem?_set]
  simp only [List.length_set]
  by_cases e:l.length-1-j=i
  ·rw [if_pos e,if_pos (by omega),if_pos (by omega),if_pos (by omega)];rfl
  ·rw [if_neg e,if_neg (by omega)]
 ·rw [List.getElem?_eq_none (by simp;omega),List.getElem?_eq_none (by simp;omega),if_neg (by omega)]
theorem bd_set{m j d:Nat}(R:Nat)(hj:j<m)(hd:d<256):(bd m R).set (m-1-j) (UInt8.ofNat d)=bd m (R%256^j+(d+R/256^(j+1)*256)*256^j):=by
 unfold bd
 have:=set_rev (N8.dl m R) j d (by rw [N8.dl_length];exact hj)
 rw [N8.dl_length] at this
 rw [this,N8.dl_set R hd]
theorem bd_mod_set{m i:Nat}(v:Nat)(hi:i<m):(bd m (v%256^i)).set (m-1-i) (UInt8.ofNat (v/256^i%256))=bd m (v%256^(i+1)):=by
 unfold bd
 have:=set_rev (N8.dl m (v%256^i)) i (v/256^i%256) (by rw [N8.dl_length];exact hi)
 rw [N8.dl_length] at this
 rw [this,N8.dl_mod_set v hi]
theorem take_val(l:List UInt8)(k:Nat)(h:k≤l.length):bvl (l.take (l.length-k))=bvl l/256^k:=by
 have e:=bvl_append (l.take (l.length-k)) (l.drop (l.length-k))
 rw [List.take_append_drop] at e
 have hl:(l.drop (l.length-k)).length=k:=by rw [List.length_drop];omega
 have hb:=bvl_lt (l.drop (l.length-k))
 rw [hl] at e hb
 rw [e,Nat.mul_comm,Nat.mul_add_div (Nat.pow_pos (by omega)),Nat.div_eq_of_lt hb];rfl
theorem bt_end(s:ByteArray)(k:Nat)(h:k<s.size):bt s ((s.size:Int)-((k+1:Nat):Int))=((bv s/256^k%256:Nat):Int):=by
 obtain ⟨p1,p2⟩:=pre_step s (s.size-(k+1)) (by omega)
 have e:((s.size:Int)-((k+1:Nat):Int))=((s.size-(k+1):Nat):Int):=by omega
 rw [e,p1]
 have hl:s.data.toList.length=s.size:=rfl
 have t1:=take_val s.data.toList (k+1) (by omega)
 have t2:=take_val s.data.toList k (by omega)
 rw [hl] at t1 t2
 unfold pre at p2
 rw [t1,show s.size-(k+1)+1=s.size-k by omega,t2] at p2
 unfold bv
 generalize bvl s.data.toList/256^(k+1)=a at*
 generalize bvl s.data.toList/256^k=b at*
 have:=(s.data.toList[s.size-(k+1)]'(by omega)).toNat_lt
 congr 1
 omega
theorem by8_rep(m:Nat):by8 (List.replicate m 0)=List.replicate m (.v (.int .u8 0)):=by unfold by8;simp
theorem by8_set(l:List UInt8)(i:Nat)(x:UInt8):by8 (l.set i x)=(by8 l).set i (.v (.int .u8 (x.toNat:Int))):=by unfold by8;simp [List.map_set]
theorem by8_val(l:List UInt8): ∀x∈by8 l,∃u,x= .v u:=by
 unfold by8;intro x hx;simp only [List.mem_map] at hx;obtain ⟨n,_,rfl⟩:=hx;exact ⟨_,rfl⟩
theorem div0(s:ByteArray)(k:Nat)(h:s.size≤k):bv s/256^k%256=0:=by
 have h1:bv s<256^s.size:=bvl_lt _
 have h2:=Nat.pow_le_pow_right (n:=256) (by omega) h
 rw [Nat.div_eq_of_lt (by omega)]
theorem sh8i(n:Int):Int.fdiv n (2^min ((8:Int).toNat) IntKind.i64.bits)=n/256:=by
 have:((2:Int)^min (Int.toNat 8) IntKind.i64.bits)=256:=by decide
 rw [this,Int.fdiv_eq_ediv_of_nonneg _ (by omega)]
theorem raddMag_c(s t:ByteArray)(hs:s.size<1000000000000)(ht:t.size<1000000000000):Fun Tryz.prog 257 [.v (.string s),.v (.string t)] [.v (.string (nb (bv s+bv t)))] :=by
 refine fun_of_go (fun t=>false) mixed tOk Tryz.func257 rfl rfl ?_
 conv=>whnf
 generalize hm:(if (s.size:Int)<(t.size:Int) then (t.size:Int) else (s.size:Int))=M
 obtain ⟨m,rfl,m1,m2⟩: ∃m:Nat,M=m∧s.size≤m∧t.size≤m:=⟨M.toNat,by omega,by omega,by omega⟩
 have m3:m<1000000000000:=by omega
 refine sd_d (by omega) ?_
 conv=>whnf
 refine sd_d (by simp only [maxLen];omega) ?_
 conv=>whnf
 refine loop_intro (fun t=>false) (fun k:Nat=>⟨fr 60 [(0,.d (.v (.string s))),(1,.d (.v (.string t))),(5,.d (i64 ((m:Int)+1))),(6,.own 0 0),(7,.d (i64 (N8.car (bv s) (bv t) k:Nat))),(8,.d (i64 ((k+1:Nat):Int)))], [.row 0 5 1 1 (by8 (bd (m+1) ((bv s+bv t)%256^k)))]⟩) (fun k=>k≤m+1) (fun k=>m+1-k) 0 mixed tOk (Nat.zero_le _) ?_ ?_
 ·refine weak_r ⟨⟨rfl,rfl,rfl,rfl, ?_⟩,trivial⟩ ⟨rfl,rfl, ?_,trivial, ?_, ?_,trivial⟩
  ·show List.replicate _ _=_
   rw [Nat.pow_zero,Nat.mod_one,bd_zero,by8_rep];congr 1
  ·conv=>whnf
  ·conv=>whnf
   simp [N8.car,Nat.mod_one]
  ·rfl
 ·intro k hk
  conv=>whnf
  have hcar:=N8.car_le (bv s) (bv t) k
  have hx:bv s/256^k%256<256:=Nat.mod_lt _ (by omega)
  have hy:bv t/256^k%256<256:=Nat.mod_lt _ (by omega)
  have hst:=N8.car_step (bv s) (bv t) k
  have hset:=bd_mod_set (m:=m+1) (bv s+bv t) (i:=k)
  have hl:=by8_length (bd (m+1) ((bv s+bv t)%256^k))
  rw [bd_length] at hl
  refine cond_d (fun h2=> ?_) (fun h2=> ?_)<;>conv=>whnf
  ·refine cond_d (fun h3=> ?_) (fun h3=> ?_)<;>conv=>whnf
   ·refine sd_d (by omega) ?_
    conv=>whnf
    refine sd_d (by omega) ?_
    conv=>whnf
    rw [bt_end s k (by omega)]
    conv=>whnf
    refine sd_d (by omega) ?_
    conv=>whnf
    refine sd_d (by omega) ?_
    conv=>whnf
    refine cond_d (fun h4=> ?_) (fun h4=> ?_)<;>conv=>whnf
    ·refine sd_d (by omega) ?_
     conv=>whnf
     refine sd_d (by omega) ?_
     conv=>whnf
     rw [bt_end t k (by omega)]
     conv=>whnf
     refine sd_d (by omega) ?_
     conv=>whnf
     refine sd_d (by omega) ?_
     conv=>whnf
     refine sd_d (by omega) ?_
     conv=>whnf
     refine sd_du (by omega) (by8_uni _) ?_
     conv=>whnf
     refine rst_one (by omega) (by8_val _) rfl ?_
     conv=>whnf
     refine sd_d (by omega) ?_
     conv=>whnf
     refine sd_d (by omega) ?_
     conv=>whnf
     refine ⟨k+1,by omega,by omega,weak_r ⟨⟨rfl,rfl,rfl,rfl, ?_⟩,trivial⟩ ⟨rfl,rfl, ?_,trivial, ?_, ?_,trivial⟩⟩
     ·rw [←hset (by omega),by8_set]
      congr 1
      ·omega
      ·congr 2
       simp only [UInt8.toNat_ofNat']
       omega
     ·conv=>whnf
     ·conv=>whnf
      rw [sh8i]
      omega
     ·conv=>whnf
      omega
    ·have zy:=div0 t k (by omega)
     refine sd_d (by omega) ?_
     conv=>whnf
     refine sd_du (by omega) (by8_uni _) ?_
     conv=>whnf
     refine rst_one (by omega) (by8_val _) rfl ?_
     conv=>whnf
     refine sd_d (by omega) ?_
     conv=>whnf
     refine sd_d (by omega) ?_
     conv=>whnf
     refine ⟨k+1,by omega,by omega,weak_r ⟨⟨rfl,rfl,rfl,rfl, ?_⟩,trivial⟩ ⟨rfl,rfl, ?_,trivial, ?_, ?_,trivial⟩⟩
     ·rw [←hset (by omega),by8_set]
      congr 1
      ·omega
      ·congr 2
       simp only [UInt8.toNat_ofNat']
       omega
     ·conv=>whnf
     ·conv=>whnf
      rw [sh8i]
      omega
     ·conv=>whnf
      omega
   ·have zx:=div0 s k (by omega)
    refine cond_d (fun h4=> ?_) (fun h4=> ?_)<;>conv=>whnf
    ·refine sd_d (by omega) ?_
     conv=>whnf
     refine sd_d (by omega) ?_
     conv=>whnf
     rw [bt_end t k (by omega)]
     conv=>whnf
     refine sd_d (by omega) ?_
     conv=>whnf
     refine sd_d (by omega) ?_
     conv=>whnf
     refine sd_d (by omega) ?_
     conv=>whnf
     refine sd_du (by omega) (by8_uni _) ?_
     conv=>whnf
     refine rst_one (by omega) (by8_val _) rfl ?_
     conv=>whnf
     refine sd_d (by omega) ?_
     conv=>whnf
     refine sd_d (by omega) ?_
     conv=>whnf
     refine ⟨k+1,by omega,by omega,weak_r ⟨⟨rfl,rfl,rfl,rfl, ?_⟩,trivial⟩ ⟨rfl,rfl, ?_,trivial, ?_, ?_,trivial⟩⟩
     ·rw [←hset (by omega),by8_set]
      congr 1
      ·omega
      ·congr 2
       simp only [UInt8.toNat_ofNat']
       omega
     ·conv=>whnf
     ·conv=>whnf
      rw [sh8i]
      omega
     ·conv=>whnf
      omega
    ·have zy:=div0 t k (by omega)
     refine sd_d (by omega) ?_
     conv=>whnf
     refine sd_du (by omega) (by8_uni _) ?_
     conv=>whnf
     refine rst_one (by omega) (by8_val _) rfl ?_
     conv=>whnf
     refine sd_d (by omega) ?_
     conv=>whnf
     refine sd_d (by omega) ?_
     conv=>whnf
     refine ⟨k+1,by omega,by omega,weak_r ⟨⟨rfl,rfl,rfl,rfl, ?_⟩,trivial⟩ ⟨rfl,rfl, ?_,trivial, ?_, ?_,trivial⟩⟩
     ·rw [←hset (by omega),by8_set]
      congr 1
      ·omega
      ·congr 2
       simp only [UInt8.toNat_ofNat']
       omega
     ·conv=>whnf
     ·conv=>whnf
      rw [sh8i]
      omega
     ·conv=>whnf
      omega
  ·have hk2:k=m+1:=by omega
   refine sd_intro (by8_all _) ?_
   conv=>whnf
   refine call_data rfl rfl (rtrim_c _) ?_
   conv=>whnf
   refine ⟨?_,trivial⟩
   conv=>whnf
   have b1:bv s<256^s.size:=bvl_lt _
   have b2:bv t<256^t.size:=bvl_lt _
   have b3:=Nat.pow_le_pow_right (n:=256) (by omega) m1
   have b4:=Nat.pow_le_pow_right (n:=256) (by omega) m2
   rw [bv_by8,bvl_bd,hk2,Nat.mod_mod,Nat.mod_eq_of_lt (by rw [Nat.pow_succ];omega)]
theorem rsubMag_c(s t:ByteArray)(hs:s.size<1000000000000)(ht:t.size<1000000000000)(hle:bv t≤bv s):Fun Tryz.prog 259 [.v (.string s),.v (.string t)] [.v (.string (nb (bv s-bv t)))] :=by
 refine fun_of_go (fun t=>false) mixed tOk Tryz.func259 rfl rfl ?_
 conv=>whnf
 generalize hm:s.size=m at hs
 refine sd_d (by simp only [maxLen];omega) ?_
 conv=>whnf
 refine loop_intro (fun t=>false) (fun k:Nat=>⟨fr 55 [(0,.d (.v (.string s))),(1,.d (.v (.string t))),(5,.own 0 0),(6,.d (i64 (N8.bor (bv s) (bv t) k:Nat))),(7,.d (i64 ((k+1:Nat):Int)))], [.row 0 5 1 1 (by8 (bd m ((bv s-bv t)%256^k)))]⟩) (fun k=>k≤m) (fun k=>m-k) 0 mixed tOk (Nat.zero_le _) ?_ ?_
 ·refine weak_r ⟨⟨rfl,rfl,rfl,rfl, ?_⟩,trivial⟩ ⟨rfl,rfl,trivial, ?_, ?_,trivial⟩
  ·show List.replicate _ _=_
   rw [Nat.pow_zero,Nat.mod_one,bd_zero,by8_rep];congr 1
  ·conv=>whnf
   simp [N8.bor,Nat.mod_one]
  ·rfl
 ·intro k hk
  conv=>whnf
  have hbor:=N8.bor_le (bv s) (bv t) k
  have hx:bv s/256^k%256<256:=Nat.mod_lt _ (by omega)
  have hy:bv t/256^k%256<256:=Nat.mod_lt _ (by omega)
  have hst:=N8.bor_step (bv s) (bv t) k
  have hdg:=N8.sub_dig (bv s) (bv t) k hle
  have hset:=bd_mod_set (m:=m) (bv s-bv t) (i:=k)
  have hl:=by8_length (bd m ((bv s-bv t)%256^k))
  rw [bd_length] at hl
  refine cond_d (fun h2=> ?_) (fun h2=> ?_)<;>conv=>whnf
  ·refine sd_d (by omega) ?_
   conv=>whnf
   refine sd_d (by omega) ?_
   conv=>whnf
   rw [bt_end s k (by omega)]
   conv=>whnf
   refine sd_d (by omega) ?_
   conv=>whnf
   refine sd_d (by omega) ?_
   conv=>whnf
   refine cond_d (fun h4=> ?_) (fun h4=> ?_)<;>conv=>whnf
   ·refine sd_d (by omega) ?_
    conv=>whnf
    refine sd_d (by omega) ?_
    conv=>whnf
    rw [bt_end t k (by omega)]
    conv=>whnf
    refine sd_d (by omega) ?_
    conv=>whnf
    refine sd_d (by omega) ?_
    conv=>whnf
    refine cond_d (fun h5=> ?_) (fun h5=> ?_)<;>conv=>whnf
    ·refine sd_d (by omega) ?_
     conv=>whnf
     refine sd_d (by omega) ?_
     conv=>whnf
     refine sd_du (by omega) (by8_uni _) ?_
     conv=>whnf
     refine rst_one (by omega) (by8_val _) rfl ?_
     conv=>whnf
     refine sd_d (by omega) ?_
     conv=>whnf
     refine ⟨k+1,by omega,by omega,weak_r ⟨⟨rfl,rfl,rfl,rfl, ?_⟩,trivial⟩ ⟨rfl,rfl,trivial, ?_, ?_,trivial⟩⟩
     ·rw [←hset (by omega),by8_set]
      congr 1
      ·omega
      ·congr 2
       simp only [UInt8.toNat_ofNat']
       omega
     ·conv=>whnf
      rw [hst]
      split<;>omega
     ·conv=>whnf
      omega
    ·refine sd_d (by omega) ?_
     conv=>whnf
     refine sd_du (by omega) (by8_uni _) ?_
     conv=>whnf
     refine rst_one (by omega) (by8_val _) rfl ?_
     conv=>whnf
     refine sd_d (by omega) ?_
     conv=>whnf
     refine ⟨k+1,by omega,by omega,weak_r ⟨⟨rfl,rfl,rfl,rfl, ?_⟩,trivial⟩ ⟨rfl,rfl,trivial, ?_, ?_,trivial⟩⟩
     ·rw [←hset (by omega),by8_set]
      congr 1
      ·omega
      ·congr 2
       simp only [UInt8.toNat_ofNat']
       omega
     ·conv=>whnf
      rw [hst]
      split<;>omega
     ·conv=>whnf
      omega
   ·have zy:=div0 t k (by omega)
    refine cond_d (fun h5=> ?_) (fun h5=> ?_)<;>conv=>whnf
    ·refine sd_d (by omega) ?_
     conv=>whnf
     refine sd_d (by omega) ?_
     conv=>whnf
     refine sd_du (by omega) (by8_uni _) ?_
     conv=>whnf
     refine rst_one (by omega) (by8_val _) rfl ?_
     conv=>whnf
     refine sd_d (by omega) ?_
     conv=>whnf
     refine ⟨k+1,by omega,by omega,weak_r ⟨⟨rfl,rfl,rfl,rfl, ?_⟩,trivial⟩ ⟨rfl,rfl,trivial, ?_, ?_,trivial⟩⟩
     ·rw [←hset (by omega),by8_set]
      congr 1
      ·omega
      ·congr 2
       simp only [UInt8.toNat_ofNat']
       omega
     ·conv=>whnf
      rw [hst]
      split<;>omega
     ·conv=>whnf
      omega
    ·refine sd_d (by omega) ?_
     conv=>whnf
     refine sd_du (by omega) (by8_uni _) ?_
     conv=>whnf
     refine rst_one (by omega) (by8_val _) rfl ?_
     conv=>whnf
     refine sd_d (by omega) ?_
     conv=>whnf
     refine ⟨k+1,by omega,by omega,weak_r ⟨⟨rfl,rfl,rfl,rfl, ?_⟩,trivial⟩ ⟨rfl,rfl,trivial, ?_, ?_,trivial⟩⟩
     ·rw [←hset (by omega),by8_set]
      congr 1
      ·omega
      ·congr 2
       simp only [UInt8.toNat_ofNat']
       omega
     ·conv=>whnf
      rw [hst]
      split<;>omega
     ·conv=>whnf
      omega
  ·have hk2:k=m:=by omega
   refine sd_intro (by8_all _) ?_
   conv=>whnf
   refine call_data rfl rfl (rtrim_c _) ?_
   conv=>whnf
   refine ⟨?_,trivial⟩
   conv=>whnf
   have b1:bv s<256^s.size:=bvl_lt _
   rw [hm] at b1
   rw [bv_by8,bvl_bd,hk2,Nat.mod_mod,Nat.mod_eq_of_lt (by omega)]
end Go.Nv
end
