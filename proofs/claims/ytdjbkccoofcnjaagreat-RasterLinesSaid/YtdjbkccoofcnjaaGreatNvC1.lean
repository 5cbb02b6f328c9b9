import Derived.Test.YtdjbkccoofcnjaaGreatNvT1
import Derived.Test.YtdjbkccoofcnjaaGreatNvN4
import Derived.Test.YtdjbkccoofcnjaaGreatNvP1
import Derived.Test.YtdjbkccoofcnjaaGreatNvN5
set_option linter.all false
set_option maxRecDepth 100000
section
namespace Go.Nv
open Go.Proofs Nw
theorem bv_nil:bv ⟨#[]⟩=0:=rfl
theorem size_pos_of{s:ByteArray}(h:(!s==(⟨#[]⟩:ByteArray))=true):0<s.data.toList.length:=by
 rcases s with ⟨⟨l⟩⟩
 cases l with
 |nil=>exact absurd h (by decide)
 |cons x l=>simp
theorem eq_nil_of{s:ByteArray}(h:(!s==(⟨#[]⟩:ByteArray))=false):s=⟨#[]⟩:=by rw [byt_beq] at h;simpa using h
theorem strip_c(s0:ByteArray):Fun Tryz.prog 231 [.v (.string s0)] [.v (.string (nb (bv s0)))] :=by
 refine fun_of_go (fun t=>false) mixed tOk Tryz.func231 rfl rfl ?_
 conv=>whnf
 refine loop_intro (fun t=>false) (fun s:ByteArray=>⟨fr 13 [(0,.d (.v (.string s))),(2,.d (.v (.string ⟨#[]⟩)))], []⟩) (fun s=>bv s=bv s0) (fun s=>s.size) s0 mixed tOk rfl (weak_x trivial ⟨rfl,rfl,trivial⟩) ?_
 intro s hs
 conv=>whnf
 refine cond_b (fun h=> ?_) (fun h=> ?_)
 ·conv=>whnf
  have h1:=size_pos_of h
  rcases s with ⟨⟨l⟩⟩
  cases l with
  |nil=>simp at h1
  |cons x l=>
   have hsz:(ByteArray.mk ⟨x::l⟩).size=l.length+1:=rfl
   have hb:bt (ByteArray.mk ⟨x::l⟩) 0=x.toNat:=by simp [bt,hsz];rfl
   refine sd_d ⟨by omega,by rw [hsz];omega⟩ ?_
   conv=>whnf
   refine cond_e (fun h2=> ?_) (fun h2=> ?_)
   ·have hx:x=0:=by rw [hb] at h2;exact UInt8.toNat_inj.1 (by simpa using h2)
    conv=>whnf
    refine sd_d ⟨by omega,by rw [hsz];omega,by omega⟩ ?_
    have he:(ByteArray.mk ⟨x::l⟩).extract 1 (ByteArray.mk ⟨x::l⟩).size=⟨⟨l⟩⟩:=by
     rw [hsz];exact extract_cons x l _ rfl
    refine ⟨⟨⟨l⟩⟩, ?_, ?_, ?_⟩
    ·rw [←hs];simp [bv,bvl_cons,hx]
    ·rw [hsz];exact Nat.lt_succ_self _
    ·refine weak_x trivial ⟨?_,rfl,trivial⟩
     exact he
   ·have hx:x≠0:=by intro hx;subst hx;exact h2 hb
    conv=>whnf
    refine ⟨?_,trivial⟩
    conv=>whnf
    rw [←hs]
    show (_:ByteArray)=⟨(nbl (bvl (x::l))).toArray⟩
    rw [nbl_bvl_nz x hx]
 ·conv=>whnf
  refine ⟨?_,trivial⟩
  conv=>whnf
  rw [←hs,eq_nil_of h]
  rfl
def us(l:List Nat):List D:=l.map fun (n:Nat)=> .v (.int .u32 (n:Int))
theorem us_length(l:List Nat):(us l).length=l.length:=by simp [us]
theorem us_get{l:List Nat}{i:Nat}{x:Nat}(h:l[i]? =some x):(us l)[i]? =some (.v (.int .u32 (x:Int))):=by simp [us,h]
theorem us_uni(l:List Nat):Uni 1 (us l):=by
 intro x hx
 simp only [us,List.mem_map] at hx
 obtain ⟨n,_,rfl⟩:=hx
 rfl
theorem us_sub(l:List Nat)(a b:Nat):subL (us l) a b=us ((l.take b).drop a):=by simp [subL,us,List.map_drop,List.map_take]
theorem getLast_of{l:List Nat}{x:Nat}(h:0<l.length)(hx:l[l.length-1]? =some x):l=l.take (l.length-1)++ [x] :=by
 have h2:l.length-1<l.length:=by omega
 rw [List.getElem?_eq_getElem h2] at hx
 have h3:l.take (l.length-1+1)=l:=List.take_of_length_le (by omega)
 rw [List.take_succ_eq_append_getElem h2] at h3
 simp at hx
 rw [hx] at h3
 exact h3.symm
attribute [irreducible] us
theorem trim_c(l0:List Nat)(h0:Lim l0)(hz:l0.length<4000000000000):Fun Tryz.prog 226 [.l (us l0)] [.l (us (ln (lv l0)))] :=by
 refine fun_of_go (fun t=>false) mixed tOk Tryz.func226 rfl rfl ?_
 conv=>whnf
 refine loop_intro (fun t=>false) (fun l:List Nat=>⟨fr 21 [(0,.d (.l (us l))),(2,.own 0 0)], [.row 0 171 1 4 []]⟩) (fun l=>Lim l∧lv l=lv l0∧l.length<4000000000000) (fun l=>l.length) l0 mixed tOk ⟨h0,rfl,hz⟩ (weak_x ⟨⟨rfl,rfl,rfl,rfl,rfl⟩,trivial⟩ ⟨rfl,trivial,trivial⟩) ?_
 rintro l ⟨hl,hv,hz⟩
 conv=>whnf
 have hL:=us_length l
 refine cond_d (fun h=> ?_) (fun h=> ?_)
 ·conv=>whnf
  have h1:0<l.length:=by omega
  obtain ⟨x,hx⟩: ∃x,l[l.length-1]? =some x:=⟨_,List.getElem?_eq_getElem (by omega)⟩
  have hlx:=getLast_of h1 hx
  refine sd_d ⟨by omega,by omega⟩ ?_
  conv=>whnf
  refine idx_intro _ (us_get (x:=x) (by rw [←hx];congr 1;omega)) (by omega) (us_uni l) ?_
  conv=>whnf
  refine cond_e (fun h2=> ?_) (fun h2=> ?_)
  ·conv=>whnf
   have hx0:x=0:=by omega
   refine sd_d ⟨by omega,by omega⟩ ?_
   conv=>whnf
   refine sd_du ⟨by omega,by omega,by omega⟩ (us_uni l) ?_
   refine ⟨l.take (l.length-1),⟨fun y hy=>hl y (List.mem_of_mem_take hy), ?_,by simp;omega⟩,by simp;omega, ?_⟩
   ·rw [←hv];conv=>rhs;rw [hlx,hx0]
    rw [lv_snoc_zero]
   ·refine weak_x ⟨⟨rfl,rfl,rfl,rfl,rfl⟩,trivial⟩ ⟨?_,⟨trivial,trivial⟩⟩
    conv=>whnf
    rw [us_sub]
    congr 1
    rw [show (((us l).length:Int)-1).toNat=l.length-1 from by omega];rfl
  ·conv=>whnf
   have hx0:x≠0:=by omega
   refine ⟨?_,trivial⟩
   conv=>whnf
   rw [←hv,ln_lv hl ?_]
   intro hn
   rw [hlx] at hn
   simp at hn;exact hx0 hn
 ·conv=>whnf
  have h1:l= [] :=by
   apply List.eq_nil_of_length_eq_zero
   omega
  refine ⟨?_,trivial⟩
  conv=>whnf
  rw [←hv,h1]
  simp only [lv,ln_zero]
abbrev u32(n:Int):D:= .v (.int .u32 n)
abbrev i64(n:Int):D:= .v (.int .i64 n)
theorem wrap32(z:BitVec 32):IntKind.u32.wrap (z.toNat:Int)=z.toNat:=by
 have:=z.isLt
 simp [IntKind.wrap,IntKind.bits,IntKind.signed];omega
theorem ofInt32(z:BitVec 32):BitVec.ofInt 32 (z.toNat:Int)=z:=by
 apply BitVec.eq_of_toNat_eq
 have:=z.isLt
 simp [BitVec.toNat_ofInt]
theorem ones32:BitVec.ofInt 32 (if IntKind.u32.signed=true then-1 else IntKind.u32.max)=BitVec.allOnes 32:=by decide
theorem toNat32{x:Int}(h:0≤x∧x<4294967296):((BitVec.ofInt 32 x).toNat:Int)=x:=by
 simp [BitVec.toNat_ofInt];omega
theorem msb32{x:Int}(h:0≤x∧x<4294967296):(BitVec.ofInt 32 x).msb=decide (2147483648≤x):=by
 rw [BitVec.msb_eq_decide]
 have:=toNat32 h
 simp only [Nat.reduceSub,Nat.reducePow]
 rw [Bool.eq_iff_iff,decide_eq_true_eq,decide_eq_true_eq];omega
theorem top32(z:BitVec 32):((z.toNat:Int)).fdiv (2^min (Int.toNat 31) 32)=if z.msb then 1 else 0:=by
 rw [BitVec.msb_eq_decide]
 have:=z.isLt
 rw [Int.fdiv_eq_ediv_of_nonneg _ (by decide)]
 simp only [Nat.reduceSub,Nat.reducePow,decide_eq_true_eq]
 have e:((2:Int)^min (Int.toNat 31) 32)=2147483648:=by decide
 rw [e]
 split<;>omega
theorem sub32_c(x y b:Int)(hx:0≤x∧x<4294967296)(hy:0≤y∧y<4294967296)(hb:b=0∨b=1):Fun Tryz.prog 232 [u32 x,u32 y,u32 b] [u32 ((x-y-b)%4294967296),u32 (if x<y+b then 1 else 0)] :=by
 refine fun_of_go (fun t=>false) mixed tOk Tryz.func232 rfl rfl ?_
 conv=>whnf
 refine sd_d (by omega) ?_
 conv=>whnf
 refine ⟨?_, ?_,trivial⟩
 ·conv=>whnf
  omega
 ·conv=>whnf
  have hd:0≤((x-y)%4294967296-b)%4294967296∧((x-y)%4294967296-b)%4294967296<4294967296:=by omega
  have hv:((x-y)%4294967296-b)%4294967296=x-y-b∨((x-y)%4294967296-b)%4294967296=x-y-b+4294967296:=by omega
  generalize ((x-y)%4294967296-b)%4294967296=z at hd hv
  show (IntKind.u32.wrap (BitVec.toNat (BitVec.ofInt 32 (IntKind.u32.wrap (BitVec.toNat (BitVec.ofInt 32 (IntKind.u32.wrap (BitVec.toNat (BitVec.ofInt 32 (if IntKind.u32.signed=true then-1 else IntKind.u32.max)^^^BitVec.ofInt 32 x)))&&&BitVec.ofInt 32 y)))|||
   BitVec.ofInt 32 (IntKind.u32.wrap (BitVec.toNat (BitVec.ofInt 32 (IntKind.u32.wrap (BitVec.toNat (BitVec.ofInt 32 (if IntKind.u32.signed=true then-1 else IntKind.u32.max)^^^BitVec.ofInt 32 (IntKind.u32.wrap (BitVec.toNat (BitVec.ofInt 32 x^^^BitVec.ofInt 32 y))))))&&&BitVec.ofInt 32 z)))))).fdiv (2^min (Int.toNat 31) 32)=if x<y+b then 1 else 0
  simp only [wrap32,ofInt32,ones32]
  rw [top32]
  simp only [BitVec.msb_or,BitVec.msb_and,BitVec.msb_xor,show (BitVec.allOnes 32).msb=true from by decide,msb32 hx,msb32 hy,msb32 hd]
  by_cases c1:2147483648≤x<;>by_cases c2:2147483648≤y<;>by_cases c3:2147483648≤z<;>simp [c1,c2,c3] <;>omega
theorem add32_c(x y b:Int)(hx:0≤x∧x<4294967296)(hy:0≤y∧y<4294967296)(hb:b=0∨b=1):Fun Tryz.prog 341 [u32 x,u32 y,u32 b] [u32 ((x+y+b)%4294967296),u32 ((x+y+b)/4294967296)] :=by
 refine fun_of_go (fun t=>false) mixed tOk Tryz.func341 rfl rfl ?_
 conv=>whnf
 refine sd_d (by omega) ?_
 conv=>whnf
 refine ⟨?_, ?_,trivial⟩
 ·conv=>whnf
  omega
 ·conv=>whnf
  rw [Int.fdiv_eq_ediv_of_nonneg _ (by decide)]
  have e:((2:Int)^min (Int.toNat 32) 64)=4294967296:=by decide
  show _/((2:Int)^min (Int.toNat 32) 64)%_=_
  rw [e];omega
theorem or64{h l:Int}(hh:0≤h∧h<4294967296)(hl:0≤l∧l<4294967296):IntKind.u64.wrap ((BitVec.ofInt 64 (h*4294967296)|||BitVec.ofInt 64 l).toNat:Int)=h*4294967296+l:=by
 obtain ⟨a,rfl⟩:=Int.eq_ofNat_of_zero_le hh.1
 obtain ⟨b,rfl⟩:=Int.eq_ofNat_of_zero_le hl.1
 have ha:a<4294967296:=by omega
 have hb:b<2^32:=by omega
 have e1:(BitVec.ofInt 64 ((a:Int)*4294967296)).toNat=a<<<32:=by
  have e:((a:Int)*4294967296)=((a*4294967296:Nat):Int):=by omega
  rw [e,BitVec.ofInt_natCast,BitVec.toNat_ofNat,Nat.mod_eq_of_lt (by omega),Nat.shiftLeft_eq]
 have e2:(BitVec.ofInt 64 (b:Int)).toNat=b:=by
  rw [BitVec.ofInt_natCast,BitVec.toNat_ofNat,Nat.mod_eq_of_lt (by omega)]
 have e3:=Nat.shiftLeft_add_eq_or_of_lt hb a
 rw [BitVec.toNat_or,e1,e2, ←e3,Nat.shiftLeft_eq,wr_eq .u64 _ trivial]
 simp only [wrV]
 omega
theorem div32_c(h l d:Int)(hh:0≤h∧h<d)(hl:0≤l∧l<4294967296)(hd:d<4294967296):Fun Tryz.prog 340 [u32 h,u32 l,u32 d] [u32 ((h*4294967296+l)/d),u32 ((h*4294967296+l)%d)] :=by
 have hq:(h*4294967296+l)/d<4294967296:=Int.ediv_lt_of_lt_mul (by omega) (by have:=Int.mul_le_mul_of_nonneg_left (show h+1≤d by omega) (show (0:Int)≤4294967296 by omega);omega)
 have hq0:0≤(h*4294967296+l)/d:=Int.ediv_nonneg (by omega) (by omega)
 have hr0:=Int.emod_nonneg (h*4294967296+l) (show d≠0 by omega)
 have hr1:=Int.emod_lt_of_pos (h*4294967296+l) (show 0<d by omega)
 refine fun_of_go (fun t=>false) mixed tOk Tryz.func340 rfl rfl ?_
 conv=>whnf
 refine cond_ne (fun _=> ?_) (fun h=>by omega)
 conv=>whnf
 refine cond_df (by omega) ?_
 conv=>whnf
 refine sd_d (by omega) ?_
 conv=>whnf
 refine sd_d (by omega) ?_
 conv=>whnf
 refine sd_d (by omega) ?_
 conv=>whnf
 refine safe_intro (by kernel_rfl) ?_
 conv=>whnf
 have e0:IntKind.u64.wrap (BitVec.toNat (BitVec.ofInt 64 (h%18446744073709551616*2^min (Int.toNat 32) IntKind.u64.bits%18446744073709551616)|||BitVec.ofInt 64 (l%18446744073709551616)))=h*4294967296+l:=by
  have e:((2:Int)^min (Int.toNat 32) IntKind.u64.bits)=4294967296:=by decide
  rw [e,show h%18446744073709551616*4294967296%18446744073709551616=h*4294967296 from by omega,show l%18446744073709551616=l from by omega]
  exact or64 (by omega) hl
 have ed:d%18446744073709551616=d:=by omega
 refine ⟨?_, ?_,trivial⟩
 ·conv=>whnf
  show Int.tdiv (IntKind.u64.wrap (BitVec.toNat (BitVec.ofInt 64 (h%18446744073709551616*2^min (Int.toNat 32) IntKind.u64.bits%18446744073709551616)|||BitVec.ofInt 64 (l%18446744073709551616)))) (d%18446744073709551616)%18446744073709551616%4294967296=_
  rw [e0,ed,Int.tdiv_eq_ediv_of_nonneg (by omega)]
  omega
 ·conv=>whnf
  show Int.tmod (IntKind.u64.wrap (BitVec.toNat (BitVec.ofInt 64 (h%18446744073709551616*2^min (Int.toNat 32) IntKind.u64.bits%18446744073709551616)|||BitVec.ofInt 64 (l%18446744073709551616)))) (d%18446744073709551616)%4294967296=_
  rw [e0,ed,Int.tmod_eq_emod_of_nonneg (by omega)]
  omega
theorem us_set(l:List Nat)(i:Nat)(x:Nat):(us l).set i (.v (.int .u32 (x:Int)))=us (l.set i x):=by
 unfold us;rw [List.map_set]
theorem us_rep(n:Nat):List.replicate n (D.v (.int .u32 0))=us (List.replicate n 0):=by
 unfold us;simp
theorem us_val(l:List Nat): ∀x∈us l,∃u,x=D.v u:=by
 unfold us;intro x hx;simp only [List.mem_map] at hx;obtain ⟨n,_,rfl⟩:=hx;exact ⟨_,rfl⟩
theorem nb_size(v:Nat):(nb v).size=(nbl v).length:=rfl
theorem bt_nb{v i:Nat}(h:i<(nbl v).length):bt (nb v) ((((nbl v).length:Int)-1)-i)=((v/256^i%256:Nat):Int):=by
 obtain ⟨x,h1,h2⟩:=bvl_byte (nbl v) i h
 rw [bvl_nbl] at h2
 have e:((((nbl v).length:Int)-1)-i).toNat=(nbl v).length-1-i:=by omega
 unfold bt
 rw [e]
 have hs:(nbl v).length-1-i<(nb v).size:=by rw [nb_size];omega
 rw [dif_pos hs,h2]
 have:(nb v)[(nbl v).length-1-i] =x:=by
  have h3:(nbl v)[(nbl v).length-1-i]? =some (nb v)[(nbl v).length-1-i] :=by
   rw [List.getElem?_eq_getElem (by omega)];rfl
  rw [h1] at h3;exact (Option.some.inj h3).symm
 rw [this]
theorem ofInt_toNat32{a:Nat}(h:a<4294967296):(BitVec.ofInt 32 (a:Int)).toNat=a:=by
 rw [BitVec.ofInt_natCast,BitVec.toNat_ofNat,Nat.mod_eq_of_lt (by omega)]
theorem or32{a b k:Nat}(ha:a<2^k)(h:a+b*2^k<4294967296):IntKind.u32.wrap ((BitVec.ofInt 32 (a:Int)|||BitVec.ofInt 32 ((b*2^k:Nat):Int)).toNat:Int)=((a+b*2^k:Nat):Int):=by
 rw [wrap32,BitVec.toNat_or,ofInt_toNat32 (by omega),ofInt_toNat32 (by omega), ←Nat.shiftLeft_eq,Nat.or_comm,or_add ha,Nat.shiftLeft_eq]
theorem load_c(s0:ByteArray)(hz:s0.size<1000000000000):Fun Tryz.prog 140 [.v (.string s0)] [.l (us (ln (bv s0)))] :=by
 have hle:(nbl (bv s0)).length≤s0.size:=nbl_length_le (bvl_lt _)
 refine fun_of_go (fun t=>false) mixed tOk Tryz.func140 rfl rfl ?_
 conv=>whnf
 refine call_data rfl rfl (strip_c s0) ?_
 generalize bv s0=v at hle ⊢
 have hsz:=nb_size v
 have hlen:(nbl v).length<1000000000000:=by omega
 conv=>whnf
 refine sd_d (by omega) ?_
 conv=>whnf
 refine sd_d (by omega) ?_
 conv=>whnf
 have e3:Int.tdiv (((nb v).size:Int)+4-1) 4=(((nbl v).length+3)/4:Nat):=by
  rw [hsz,Int.tdiv_eq_ediv_of_nonneg (by omega)];omega
 refine sd_dd (by omega) (by rw [e3];omega) ?_
 conv=>whnf
 refine sd_d (by rw [e3];simp only [maxLen];omega) ?_
 conv=>whnf
 refine loop_intro (fun t=>false) (fun i:Nat=>⟨fr 41 [(0,.d (.v (.string (nb v)))),(2,.own 0 0),(3,.own 1 0),(15,.d (i64 ((nb v).size))),(16,.d (i64 i))], [.row 0 171 1 4 [],.row 0 171 1 4 (us (dl (((nbl v).length+3)/4) (v%256^i)))]⟩) (fun i=>i≤(nbl v).length) (fun i=>(nbl v).length-i) 0 mixed tOk (Nat.zero_le _) ?_ ?_
 conv=>whnf
 ·refine weak_x ⟨⟨rfl,rfl,rfl,rfl,rfl⟩,⟨rfl,rfl,rfl,rfl, ?_⟩,trivial⟩ ?_
  ·rw [e3,us_rep,Nat.pow_zero,Nat.mod_one,dl_zero];rfl
  ·exact ⟨rfl,trivial,trivial,rfl,rfl,trivial⟩
 ·intro i hi
  conv=>whnf
  refine cond_d (fun h=> ?_) (fun h=> ?_)
  conv=>whnf
  ·have hi':i<(nbl v).length:=by omega
   refine sd_d (by omega) ?_
   conv=>whnf
   refine sd_d (by omega) ?_
   conv=>whnf
   have hq:Int.tdiv (i:Int) 4=((i/4:Nat):Int):=by rw [Int.tdiv_eq_ediv_of_nonneg (by omega)];omega
   have hl:(us (dl (((nbl v).length+3)/4) (v%256^i))).length=((nbl v).length+3)/4:=by rw [us_length,dl_length]
   have hV:v%256^i<256^i:=Nat.mod_lt _ (Nat.pow_pos (by omega))
   obtain ⟨old,o1,o2,o3,o4⟩:=dl_byte (m:=((nbl v).length+3)/4) (b:=v/256^i%256) hV (Nat.mod_lt _ (by omega)) (show i<4*(((nbl v).length+3)/4) by omega)
   rw [←mod_succ] at o4
   refine sd_dd (by omega) (by rw [hq];omega) ?_
   conv=>whnf
   refine sd_du (by rw [hq,hl];omega) (us_uni _) ?_
   conv=>whnf
   refine rld_intro (i:=i/4) (r:=0) _ _ (us_get o1) (by rw [hq];omega) (by omega) (us_uni _) rfl ?_
   conv=>whnf
   refine sd_d (by rw [hsz];omega) ?_
   conv=>whnf
   refine sd_d (by omega) ?_
   conv=>whnf
   have hm:Int.tmod (i:Int) 4=((i%4:Nat):Int):=by rw [Int.tmod_eq_emod_of_nonneg (by omega)];omega
   refine sd_d (by rw [hm];omega) ?_
   conv=>whnf
   refine sd_d (by rw [hm];omega) ?_
   conv=>whnf
   refine sd_du (by rw [hq,hl];omega) (us_uni _) ?_
   conv=>whnf
   rw [hq,hm,hsz,Int.toNat_natCast]
   refine rst_one (by rw [hl];omega) (us_val _) rfl ?_
   conv=>whnf
   refine safe_intro (by kernel_rfl) ?_
   conv=>whnf
   refine sd_d (by omega) ?_
   conv=>whnf
   refine ⟨i+1,hi',by omega,weak_x ⟨⟨rfl,rfl,rfl,rfl,rfl⟩,⟨rfl,rfl,rfl,rfl, ?_⟩,trivial⟩ ⟨rfl,trivial,trivial,rfl,rfl,trivial⟩⟩
   rw [o4, ←us_set,bt_nb hi']
   congr 3
   have hk:(256:Nat)^(i%4)=2^(8*(i%4)):=by rw [show 256=2^8 from rfl, ←Nat.pow_mul]
   rw [hk] at o2 o3 ⊢
   rw [←or32 o2 o3]
   congr 5
   have e:min (8*((i%4:Nat):Int)).toNat IntKind.u32.bits=8*(i%4):=by
    show min _ 32=_
    omega
   rw [e]
   generalize v/256^i=z at o3 ⊢
   generalize 8*(i%4)=k at o3 ⊢
   have:((z%256:Nat):Int)*2^k=((z%256*2^k:Nat):Int):=by push_cast;rfl
   rw [show ((z%256:Nat):Int)%4294967296=((z%256:Nat):Int) from by omega,this]
   omega
  ·refine ⟨?_,trivial⟩
   conv=>whnf
   rw [show i=(nbl v).length from by omega,Nat.mod_eq_of_lt (nbl_high v),dl_nbl]
theorem ul_get{a i:Nat}(h:i<(ln a).length):(us (ln a))[i]? =some (u32 ((a/4294967296^i%4294967296:Nat):Int)):=us_get (ln_get h)
theorem compare_c(a b:Nat)(ha:(ln a).length<1000000000000)(hb:(ln b).length<1000000000000):Fun Tryz.prog 142 [.l (us (ln a)),.l (us (ln b))] [i64 (cmpN a b)] :=by
 have la:=us_length (ln a)
 have lb:=us_length (ln b)
 refine fun_of_go (fun t=>false) mixed tOk Tryz.func142 rfl rfl ?_
 conv=>whnf
 refine cond_ne (fun h=> ?_) (fun h=> ?_)
 conv=>whnf
 ·refine cond_d (fun h2=> ?_) (fun h2=> ?_)
  conv=>whnf
  ·refine ⟨?_,trivial⟩
   conv=>whnf
   have:=ln_len_lt (a:=a) (b:=b) (by omega)
   simp only [cmpN,if_pos this]
  ·refine ⟨?_,trivial⟩
   conv=>whnf
   have:=ln_len_lt (a:=b) (b:=a) (by omega)
   simp only [cmpN,if_neg (Nat.lt_asymm this),if_pos this]
 ·refine sd_d (by omega) ?_
  conv=>whnf
  refine loop_intro (fun t=>false) (fun k:Nat=>⟨fr 43 [(0,.d (.l (us (ln a)))),(1,.d (.l (us (ln b)))),(4,.d (i64 0)),(5,.d (i64 (k-1)))], []⟩) (fun k=>k≤(ln a).length∧a/4294967296^k=b/4294967296^k) (fun k=>k) (ln a).length mixed tOk ⟨Nat.le_refl _, ?_⟩ ?_ ?_
  conv=>whnf
  ·rw [Nat.div_eq_of_lt (ln_high a),show (ln a).length=(ln b).length by omega,Nat.div_eq_of_lt (ln_high b)]
  ·exact weak_x trivial ⟨rfl,rfl,rfl,by rw [la];rfl,trivial⟩
  ·rintro k ⟨hk,he⟩
   conv=>whnf
   refine cond_d (fun h2=> ?_) (fun h2=> ?_)
   conv=>whnf
   ·obtain ⟨j,rfl⟩: ∃j,k=j+1:=⟨k-1,by omega⟩
    have e1:(((j+1:Nat):Int)-1).toNat=j:=by omega
    have i1:(us (ln a))[(((j+1:Nat):Int)-1).toNat]? =some (u32 ((a/4294967296^j%4294967296:Nat):Int)):=by rw [e1];exact ul_get (by omega)
    have i2:(us (ln b))[(((j+1:Nat):Int)-1).toNat]? =some (u32 ((b/4294967296^j%4294967296:Nat):Int)):=by rw [e1];exact ul_get (by omega)
    refine idx_intro _ i1 (by omega) (us_uni _) ?_
    conv=>whnf
    refine idx_intro _ i2 (by omega) (us_uni _) ?_
    conv=>whnf
    refine safe_intro (by kernel_rfl) ?_
    conv=>whnf
    refine cond_d (fun h3=> ?_) (fun h3=> ?_)
    conv=>whnf
    ·refine ⟨?_,trivial⟩
     conv=>whnf
     have:=dig_lt he (by omega)
     simp only [cmpN,if_pos this]
    ·refine idx_intro _ i1 (by omega) (us_uni _) ?_
     conv=>whnf
     refine idx_intro _ i2 (by omega) (us_uni _) ?_
     conv=>whnf
     refine safe_intro (by kernel_rfl) ?_
     conv=>whnf
     refine cond_d (fun h4=> ?_) (fun h4=> ?_)
     conv=>whnf
     ·refine ⟨?_,trivial⟩
      conv=>whnf
      have:=dig_lt he.symm (by omega)
      simp only [cmpN,if_neg (Nat.lt_asymm this),if_pos this]
     ·refine sd_d (by omega) ?_
      conv=>whnf
      refine ⟨j,⟨by omega,dig_eq' he (by omega)⟩,by omega,weak_x trivial ⟨rfl,rfl,rfl, ?_,trivial⟩⟩
      conv=>whnf
      omega
   ·refine ⟨?_,trivial⟩
    conv=>whnf
    have:k=0:=by omega
    subst this
    simp at he
    subst he
    simp [cmpN]
theorem sh32(n:Nat):Int.fdiv (n:Int) (2^min (Int.toNat 32) IntKind.u64.bits)=((n/4294967296:Nat):Int):=by
 rw [Int.fdiv_eq_ediv_of_nonneg _ (by decide)]
 have e:((2:Int)^min (Int.toNat 32) IntKind.u64.bits)=4294967296:=by decide
 rw [e];omega
theorem us_app(a b:List Nat):us a++us b=us (a++b):=by unfold us;simp
theorem us_one(x:Nat): [u32 (x:Int)] =us [x] :=by unfold us;rfl
theorem uni1(v:Value):Uni 1 [D.v v] :=by intro x hx;simp at hx;subst hx;rfl
theorem plus_c(a b:Nat)(ha:(ln a).length<1000000000000)(hb:(ln b).length<1000000000000):Fun Tryz.prog 141 [.l (us (ln a)),.l (us (ln b))] [.l (us (ln (a+b)))] :=by
 refine fun_of_go (fun t=>false) mixed tOk Tryz.func141 rfl rfl ?_
 conv=>whnf
 refine cond_d (fun h=> ?_) (fun h=> ?_)<;>conv=>whnf
 ·have lla:=us_length (ln a)
  have llb:=us_length (ln b)
  have hle:(ln a).length≤(ln b).length:=by omega
  have la:=us_length (ln b)
  have lb:=us_length (ln a)
  refine sd_d (by omega) ?_
  conv=>whnf
  refine sd_d (by simp only [maxLen];omega) ?_
  conv=>whnf
  refine loop_intro (fun t=>false) (fun i:Nat=>⟨fr 56 [(1,.d (.l (us (ln a)))),(4,.own 0 0),(5,.own 1 0),(6,.d (.v (.int .u64 (car b a i)))),(20,.d (.l (us (ln b)))),(21,.d (i64 (us (ln b)).length)),(22,.d (i64 i))], [.row 0 171 1 4 [],.row 0 171 1 4 (us (dl i (b+a)))]⟩) (fun i=>i≤(ln b).length) (fun i=>(ln b).length-i) 0 mixed tOk (Nat.zero_le _) ?_ ?_
  ·refine weak_r ⟨⟨rfl,rfl,rfl,rfl,rfl⟩,⟨rfl,rfl,rfl,rfl, ?_⟩,trivial⟩ ⟨rfl,trivial,trivial, ?_,rfl,rfl,rfl,trivial⟩
   ·unfold us;rfl
   ·conv=>whnf
    simp [car,Nat.mod_one]
  ·intro i hi
   conv=>whnf
   have hc:=car_le b a i
   obtain ⟨s1,s2⟩:=car_step b a i
   have hdl:=dl_length i (b+a)
   have hul:=us_length (dl i (b+a))
   refine cond_d (fun h2=> ?_) (fun h2=> ?_)<;>conv=>whnf
   ·refine idx_intro _ (ul_get (a:=b) (i:=i) (by omega)) (by omega) (us_uni _) ?_
    conv=>whnf
    refine cond_d (fun h3=> ?_) (fun h3=> ?_)<;>conv=>whnf
    ·refine idx_intro _ (ul_get (a:=a) (i:=i) (by omega)) (by omega) (us_uni _) ?_
     conv=>whnf
     refine sd_app (us_uni _) (uni1 _) (by simp only [maxLen,List.length_cons,List.length_nil];omega) ?_
     conv=>whnf
     refine sd_d (by omega) ?_
     conv=>whnf
     refine sd_d (by omega) ?_
     conv=>whnf
     have hlt:a/4294967296^i%4294967296<4294967296:=Nat.mod_lt _ (by omega)
     have hlt2:b/4294967296^i%4294967296<4294967296:=Nat.mod_lt _ (by omega)
     have e:((car b a i:Int)+((b/4294967296^i%4294967296:Nat):Int)%18446744073709551616)%18446744073709551616=((car b a i+b/4294967296^i%4294967296:Nat):Int):=by omega
     have e2:(((car b a i+b/4294967296^i%4294967296:Nat):Int)+((a/4294967296^i%4294967296:Nat):Int)%18446744073709551616)%18446744073709551616=((car b a i+b/4294967296^i%4294967296+a/4294967296^i%4294967296:Nat):Int):=by omega
     refine ⟨i+1,by omega,by omega, ?_⟩
     rw [e,e2]
     refine weak_r ⟨⟨rfl,rfl,rfl,rfl,rfl⟩,⟨rfl,rfl,rfl,rfl, ?_⟩,trivial⟩ ⟨rfl,trivial,trivial, ?_,rfl,rfl,rfl,trivial⟩
     ·rw [dl_snoc, ←us_app, ←us_one, ←s1];congr 4
     ·conv=>whnf
      rw [sh32,s2]
    ·refine sd_app (us_uni _) (uni1 _) (by simp only [maxLen,List.length_cons,List.length_nil];omega) ?_
     conv=>whnf
     refine sd_d (by omega) ?_
     conv=>whnf
     refine sd_d (by omega) ?_
     conv=>whnf
     have hz:a/4294967296^i=0:=div_zero_of (by omega)
     have hlt2:b/4294967296^i%4294967296<4294967296:=Nat.mod_lt _ (by omega)
     have e:((car b a i:Int)+((b/4294967296^i%4294967296:Nat):Int)%18446744073709551616)%18446744073709551616=((car b a i+b/4294967296^i%4294967296+a/4294967296^i%4294967296:Nat):Int):=by rw [hz];omega
     refine ⟨i+1,by omega,by omega, ?_⟩
     rw [e]
     refine weak_r ⟨⟨rfl,rfl,rfl,rfl,rfl⟩,⟨rfl,rfl,rfl,rfl, ?_⟩,trivial⟩ ⟨rfl,trivial,trivial, ?_,rfl,rfl,rfl,trivial⟩
     ·rw [dl_snoc, ←us_app, ←us_one, ←s1];congr 4
     ·conv=>whnf
      rw [sh32,s2]
   ·have hi2:i=(ln b).length:=by omega
    refine sd_app (us_uni _) (uni1 _) (by simp only [maxLen,List.length_cons,List.length_nil];omega) ?_
    conv=>whnf
    refine call_frz 1 (call_eq rfl rfl (trim_c (dl (i+1) (b+a)) (lim_dl _ _) (by rw [dl_length];omega)) ?_ ?_)
    ·rw [dl_snoc, ←us_app, ←us_one]
     have e:(car b a i:Int)%4294967296=(((b+a)/4294967296^i%4294967296:Nat):Int):=by
      have hA:=ln_high b
      rw [←hi2] at hA
      have hB:a<4294967296^i:=Nat.lt_of_lt_of_le (ln_high a) (Nat.pow_le_pow_right (by omega) (by omega))
      have:(b+a)/4294967296^i=car b a i:=by unfold car;rw [Nat.mod_eq_of_lt hA,Nat.mod_eq_of_lt hB]
      rw [this];omega
     rw [←e];rfl
    ·conv=>whnf
     refine ⟨?_,trivial⟩
     conv=>whnf
     have hA:=ln_high b
     rw [←hi2] at hA
     have hB:a<4294967296^i:=Nat.lt_of_lt_of_le (ln_high a) (Nat.pow_le_pow_right (by omega) (by omega))
     have hs:(b+a)%4294967296^(i+1)=a+b:=(Nat.mod_eq_of_lt (by rw [Nat.pow_succ];omega)).trans (by omega)
     rw [lv_dl,hs]
 ·have lla:=us_length (ln a)
  have llb:=us_length (ln b)
  have hle:(ln b).length≤(ln a).length:=by omega
  have la:=us_length (ln a)
  have lb:=us_length (ln b)
  refine sd_d (by omega) ?_
  conv=>whnf
  refine sd_d (by simp only [maxLen];omega) ?_
  conv=>whnf
  refine loop_intro (fun t=>false) (fun i:Nat=>⟨fr 56 [(1,.d (.l (us (ln b)))),(4,.own 0 0),(5,.own 1 0),(6,.d (.v (.int .u64 (car a b i)))),(20,.d (.l (us (ln a)))),(21,.d (i64 (us (ln a)).length)),(22,.d (i64 i))], [.row 0 171 1 4 [],.row 0 171 1 4 (us (dl i (a+b)))]⟩) (fun i=>i≤(ln a).length) (fun i=>(ln a).length-i) 0 mixed tOk (Nat.zero_le _) ?_ ?_
  ·refine weak_r ⟨⟨rfl,rfl,rfl,rfl,rfl⟩,⟨rfl,rfl,rfl,rfl, ?_⟩,trivial⟩ ⟨rfl,trivial,trivial, ?_,rfl,rfl,rfl,trivial⟩
   ·unfold us;rfl
   ·conv=>whnf
    simp [car,Nat.mod_one]
  ·intro i hi
   conv=>whnf
   have hc:=car_le a b i
   obtain ⟨s1,s2⟩:=car_step a b i
   have hdl:=dl_length i (a+b)
   have hul:=us_length (dl i (a+b))
   refine cond_d (fun h2=> ?_) (fun h2=> ?_)<;>conv=>whnf
   ·refine idx_intro _ (ul_get (a:=a) (i:=i) (by omega)) (by omega) (us_uni _) ?_
    conv=>whnf
    refine cond_d (fun h3=> ?_) (fun h3=> ?_)<;>conv=>whnf
    ·refine idx_intro _ (ul_get (a:=b) (i:=i) (by omega)) (by omega) (us_uni _) ?_
     conv=>whnf
     refine sd_app (us_uni _) (uni1 _) (by simp only [maxLen,List.length_cons,List.length_nil];omega) ?_
     conv=>whnf
     refine sd_d (by omega) ?_
     conv=>whnf
     refine sd_d (by omega) ?_
     conv=>whnf
     have hlt:b/4294967296^i%4294967296<4294967296:=Nat.mod_lt _ (by omega)
     have hlt2:a/4294967296^i%4294967296<4294967296:=Nat.mod_lt _ (by omega)
     have e:((car a b i:Int)+((a/4294967296^i%4294967296:Nat):Int)%18446744073709551616)%18446744073709551616=((car a b i+a/4294967296^i%4294967296:Nat):Int):=by omega
     have e2:(((car a b i+a/4294967296^i%4294967296:Nat):Int)+((b/4294967296^i%4294967296:Nat):Int)%18446744073709551616)%18446744073709551616=((car a b i+a/4294967296^i%4294967296+b/4294967296^i%4294967296:Nat):Int):=by omega
     refine ⟨i+1,by omega,by omega, ?_⟩
     rw [e,e2]
     refine weak_r ⟨⟨rfl,rfl,rfl,rfl,rfl⟩,⟨rfl,rfl,rfl,rfl, ?_⟩,trivial⟩ ⟨rfl,trivial,trivial, ?_,rfl,rfl,rfl,trivial⟩
     ·rw [dl_snoc, ←us_app, ←us_one, ←s1];congr 4
     ·conv=>whnf
      rw [sh32,s2]
    ·refine sd_app (us_uni _) (uni1 _) (by simp only [maxLen,List.length_cons,List.length_nil];omega) ?_
     conv=>whnf
     refine sd_d (by omega) ?_
     conv=>whnf
     refine sd_d (by omega) ?_
     conv=>whnf
     have hz:b/4294967296^i=0:=div_zero_of (by omega)
     have hlt2:a/4294967296^i%4294967296<4294967296:=Nat.mod_lt _ (by omega)
     have e:((car a b i:Int)+((a/4294967296^i%4294967296:Nat):Int)%18446744073709551616)%18446744073709551616=((car a b i+a/4294967296^i%4294967296+b/4294967296^i%4294967296:Nat):Int):=by rw [hz];omega
     refine ⟨i+1,by omega,by omega, ?_⟩
     rw [e]
     refine weak_r ⟨⟨rfl,rfl,rfl,rfl,rfl⟩,⟨rfl,rfl,rfl,rfl, ?_⟩,trivial⟩ ⟨rfl,trivial,trivial, ?_,rfl,rfl,rfl,trivial⟩
     ·rw [dl_snoc, ←us_app, ←us_one, ←s1];congr 4
     ·conv=>whnf
      rw [sh32,s2]
   ·have hi2:i=(ln a).length:=by omega
    refine sd_app (us_uni _) (uni1 _) (by simp only [maxLen,List.length_cons,List.length_nil];omega) ?_
    conv=>whnf
    refine call_frz 1 (call_eq rfl rfl (trim_c (dl (i+1) (a+b)) (lim_dl _ _) (by rw [dl_length];omega)) ?_ ?_)
    ·rw [dl_snoc, ←us_app, ←us_one]
     have e:(car a b i:Int)%4294967296=(((a+b)/4294967296^i%4294967296:Nat):Int):=by
      have hA:=ln_high a
      rw [←hi2] at hA
      have hB:b<4294967296^i:=Nat.lt_of_lt_of_le (ln_high b) (Nat.pow_le_pow_right (by omega) (by omega))
      have:(a+b)/4294967296^i=car a b i:=by unfold car;rw [Nat.mod_eq_of_lt hA,Nat.mod_eq_of_lt hB]
      rw [this];omega
     rw [←e];rfl
    ·conv=>whnf
     refine ⟨?_,trivial⟩
     conv=>whnf
     have hA:=ln_high a
     rw [←hi2] at hA
     have hB:b<4294967296^i:=Nat.lt_of_lt_of_le (ln_high b) (Nat.pow_le_pow_right (by omega) (by omega))
     have hs:(a+b)%4294967296^(i+1)=a+b:=(Nat.mod_eq_of_lt (by rw [Nat.pow_succ];omega)).trans (by omega)
     rw [lv_dl,hs]
theorem minus_c(a b:Nat)(hab:b≤a)(ha:(ln a).length<1000000000000):Fun Tryz.prog 143 [.l (us (ln a)),.l (us (ln b))] [.l (us (ln (a-b)))] :=by
 have la:=us_length (ln a)
 have lb:=us_length (ln b)
 have hlen:=ln_len_mono hab
 refine fun_of_go (fun t=>false) mixed tOk Tryz.func143 rfl rfl ?_
 conv=>whnf
 refine sd_d (by simp only [maxLen];omega) ?_
 conv=>whnf
 refine loop_intro (fun t=>false) (fun i:Nat=>⟨fr 41 [(1,.d (.l (us (ln b)))),(4,.own 0 0),(5,.own 1 0),(6,.d (u32 (bor a b i))),(13,.d (.l (us (ln a)))),(14,.d (i64 (us (ln a)).length)),(15,.d (i64 i))], [.row 0 171 1 4 [],.row 0 171 1 4 (us (dl (ln a).length ((a-b)%4294967296^i)))]⟩) (fun i=>i≤(ln a).length) (fun i=>(ln a).length-i) 0 mixed tOk (Nat.zero_le _) ?_ ?_
 ·refine weak_r ⟨⟨rfl,rfl,rfl,rfl,rfl⟩,⟨rfl,rfl,rfl,rfl, ?_⟩,trivial⟩ ⟨rfl,trivial,trivial, ?_,rfl,rfl,rfl,trivial⟩
  ·rw [la,us_rep,Nat.pow_zero,Nat.mod_one,dl_zero];rfl
  ·conv=>whnf
   rw [bor_zero];rfl
 ·intro i hi
  conv=>whnf
  have hrl:=us_length (dl (ln a).length ((a-b)%4294967296^i))
  rw [dl_length] at hrl
  have hx:a/4294967296^i%4294967296<4294967296:=Nat.mod_lt _ (by omega)
  have hy:b/4294967296^i%4294967296<4294967296:=Nat.mod_lt _ (by omega)
  have hbo:=bor_le a b i
  have hd:=sub_dig a b i hab
  have hs:=bor_step a b i
  refine cond_d (fun h2=> ?_) (fun h2=> ?_)<;>conv=>whnf
  ·refine idx_intro _ (ul_get (a:=a) (i:=i) (by omega)) (by omega) (us_uni _) ?_
   conv=>whnf
   have fin: ∀y:Nat,b/4294967296^i%4294967296=y→True:=fun _ _=>trivial
   refine cond_d (fun h3=> ?_) (fun h3=> ?_)<;>conv=>whnf
   ·refine idx_intro _ (ul_get (a:=b) (i:=i) (by omega)) (by omega) (us_uni _) ?_
    conv=>whnf
    refine call_eq rfl rfl (sub32_c ((a/4294967296^i%4294967296:Nat):Int) ((b/4294967296^i%4294967296:Nat):Int) (bor a b i:Nat) (by omega) (by omega) (by omega)) ?_ ?_
    ·first
      |rfl
      |(have hz:b/4294967296^i=0:=div_zero_of (by omega)
        rw [hz];rfl)
    ·conv=>whnf
     refine sd_du (by omega) (us_uni _) ?_
     conv=>whnf
     rw [Int.toNat_natCast]
     refine rst_one (by omega) (us_val _) rfl ?_
     conv=>whnf
     refine sd_d (by omega) ?_
     conv=>whnf
     refine ⟨i+1,by omega,by omega, ?_⟩
     refine weak_r ⟨⟨rfl,rfl,rfl,rfl,rfl⟩,⟨rfl,rfl,rfl,rfl, ?_⟩,trivial⟩ ⟨rfl,trivial,trivial, ?_,rfl,rfl,rfl,trivial⟩
     ·rw [←dl_mod_set (m:=(ln a).length) _ (by omega), ←us_set, ←hd]
     ·conv=>whnf
      rw [hs]
      split<;>split<;>first|rfl|omega
   ·refine call_eq rfl rfl (sub32_c ((a/4294967296^i%4294967296:Nat):Int) ((b/4294967296^i%4294967296:Nat):Int) (bor a b i:Nat) (by omega) (by omega) (by omega)) ?_ ?_
    ·first
      |rfl
      |(have hz:b/4294967296^i=0:=div_zero_of (by omega)
        rw [hz];rfl)
    ·conv=>whnf
     refine sd_du (by omega) (us_uni _) ?_
     conv=>whnf
     rw [Int.toNat_natCast]
     refine rst_one (by omega) (us_val _) rfl ?_
     conv=>whnf
     refine sd_d (by omega) ?_
     conv=>whnf
     refine ⟨i+1,by omega,by omega, ?_⟩
     refine weak_r ⟨⟨rfl,rfl,rfl,rfl,rfl⟩,⟨rfl,rfl,rfl,rfl, ?_⟩,trivial⟩ ⟨rfl,trivial,trivial, ?_,rfl,rfl,rfl,trivial⟩
     ·rw [←dl_mod_set (m:=(ln a).length) _ (by omega), ←us_set, ←hd]
     ·conv=>whnf
      rw [hs]
      split<;>split<;>first|rfl|omega
  ·have hi2:i=(ln a).length:=by omega
   refine call_frz 1 (call_eq rfl rfl (trim_c (dl (ln a).length ((a-b)%4294967296^i)) (lim_dl _ _) (by rw [dl_length];omega)) rfl ?_)
   conv=>whnf
   refine ⟨?_,trivial⟩
   conv=>whnf
   have hA:=ln_high a
   rw [lv_dl,hi2,Nat.mod_mod,Nat.mod_eq_of_lt (by omega)]
abbrev u64(n:Int):D:= .v (.int .u64 n)
theorem times_c(a b:Nat)(ha:(ln a).length<1000000000000)(hb:(ln b).length<1000000000000):Fun Tryz.prog 144 [.l (us (ln a)),.l (us (ln b))] [.l (us (ln (a*b)))] :=by
 have la:=us_length (ln a)
 have lb:=us_length (ln b)
 generalize hm:(ln a).length+(ln b).length=m
 refine fun_of_go (fun t=>false) mixed tOk Tryz.func144 rfl rfl ?_
 conv=>whnf
 refine sd_d (by omega) ?_
 conv=>whnf
 refine sd_d (by simp only [maxLen];omega) ?_
 conv=>whnf
 refine loop_intro (fun t=>false) (fun i:Nat=>⟨fr 67 [(1,.d (.l (us (ln b)))),(4,.own 0 0),(5,.own 1 0),(17,.d (.l (us (ln a)))),(18,.d (i64 (us (ln a)).length)),(19,.d (i64 i))], [.row 0 171 1 4 [],.row 0 171 1 4 (us (dl m (a%4294967296^i*b)))]⟩) (fun i=>i≤(ln a).length) (fun i=>(ln a).length-i) 0 mixed tOk (Nat.zero_le _) ?_ ?_
 ·refine weak_r ⟨⟨rfl,rfl,rfl,rfl,rfl⟩,⟨rfl,rfl,rfl,rfl, ?_⟩,trivial⟩ ⟨rfl,trivial,trivial,rfl,rfl,rfl,trivial⟩
  rw [la,lb,us_rep,Nat.pow_zero,Nat.mod_one,Nat.zero_mul,dl_zero, ←hm];rfl
 ·intro i hi
  conv=>whnf
  refine cond_d (fun h2=> ?_) (fun h2=> ?_)<;>conv=>whnf
  ·refine idx_intro _ (ul_get (a:=a) (i:=i) (by omega)) (by omega) (us_uni _) ?_
   conv=>whnf
   have hx:a/4294967296^i%4294967296<4294967296:=Nat.mod_lt _ (by omega)
   refine loop_intro (fun t=>false) (fun k:Nat=>⟨fr 67 [(1,.d (.l (us (ln b)))),(4,.own 0 0),(5,.own 1 0),(6,.d (i64 i)),(7,.d (u32 (a/4294967296^i%4294967296:Nat))),(8,.d (u64 (tC (a%4294967296^i*b) (a/4294967296^i%4294967296) b i k))),(17,.d (.l (us (ln a)))),(18,.d (i64 (us (ln a)).length)),(19,.d (i64 i)),(24,.d (.l (us (ln b)))),(25,.d (i64 (us (ln b)).length)),(26,.d (i64 k))], [.row 0 171 1 4 [],.row 0 171 1 4 (us (dl m (tR (a%4294967296^i*b) (a/4294967296^i%4294967296) b i k)))]⟩) (fun k=>k≤(ln b).length) (fun k=>(ln b).length-k) 0 mixed tOk (Nat.zero_le _) ?_ ?_
   ·refine weak_r ⟨⟨rfl,rfl,rfl,rfl,rfl⟩,⟨rfl,rfl,rfl,rfl, ?_⟩,trivial⟩ ⟨rfl,trivial,trivial,rfl,rfl, ?_,rfl,rfl,rfl,rfl,rfl,rfl,trivial⟩
    ·rw [tR_zero]
    ·conv=>whnf
     rw [tC_zero];rfl
   ·intro k hk
    conv=>whnf
    generalize hT:a%4294967296^i*b=T
    generalize hX:a/4294967296^i%4294967296=x at hx ⊢
    have hcl:=tC_lt (T:=T) (b:=b) (i:=i) (k:=k) hx
    have hrl:=us_length (dl m (tR T x b i k))
    rw [dl_length] at hrl
    refine cond_d (fun h3=> ?_) (fun h3=> ?_)<;>conv=>whnf
    ·refine idx_intro _ (ul_get (a:=b) (i:=k) (by omega)) (by omega) (us_uni _) ?_
     conv=>whnf
     refine sd_d (by omega) ?_
     conv=>whnf
     have ei:(((i:Int)+k).toNat)=i+k:=by omega
     refine sd_du (by omega) (us_uni _) ?_
     conv=>whnf
     refine rld_intro (i:=i+k) (r:=0) _ _ (us_get (dl_get (m:=m) (tR T x b i k) (show i+k<m by omega))) (by rw [ei];omega) (by omega) (us_uni _) rfl ?_
     conv=>whnf
     refine sd_d (by omega) ?_
     conv=>whnf
     refine sd_du (by omega) (us_uni _) ?_
     conv=>whnf
     rw [ei,t_dig]
     refine rst_one (by omega) (us_val _) rfl ?_
     obtain ⟨s1,s2⟩:=t_step T x b i k
     have hy:b/4294967296^k%4294967296<4294967296:=Nat.mod_lt _ (by omega)
     have ho:T/4294967296^(i+k)%4294967296<4294967296:=Nat.mod_lt _ (by omega)
     have hxy:x*(b/4294967296^k%4294967296)≤4294967295*4294967295:=Nat.mul_le_mul (by omega) (by omega)
     generalize b/4294967296^k%4294967296=y at*
     generalize T/4294967296^(i+k)%4294967296=o at*
     have e1:((x:Int)%18446744073709551616*((y:Int)%18446744073709551616))=((x*y:Nat):Int):=by
      rw [show (x:Int)%18446744073709551616=x by omega,show (y:Int)%18446744073709551616=y by omega];push_cast;rfl
     have e2:((tC T x b i k:Nat)+((x:Int)%18446744073709551616*((y:Int)%18446744073709551616)%18446744073709551616+(o:Int)%18446744073709551616)%18446744073709551616)%18446744073709551616=((tC T x b i k+(x*y+o):Nat):Int):=by
      rw [e1];omega
     rw [e2]
     conv=>whnf
     refine sd_d (by omega) ?_
     conv=>whnf
     refine sd_d (by omega) ?_
     conv=>whnf
     refine ⟨k+1,by omega,by omega,weak_r ⟨⟨rfl,rfl,rfl,rfl,rfl⟩,⟨rfl,rfl,rfl,rfl, ?_⟩,trivial⟩ ⟨rfl,trivial,trivial,rfl,rfl, ?_,rfl,rfl,rfl,rfl,rfl,rfl,trivial⟩⟩
     ·rw [s2, ←dl_set _ (Nat.mod_lt _ (by omega)), ←us_set];rfl
     ·conv=>whnf
      rw [sh32,s1]
    ·have hk2:k=(ln b).length:=by omega
     refine sd_d (by omega) ?_
     conv=>whnf
     have ei:(((i:Int)+((us (ln b)).length:Int)).toNat)=i+(ln b).length:=by omega
     refine sd_du (by omega) (us_uni _) ?_
     conv=>whnf
     rw [ei]
     refine rst_one (by omega) (us_val _) rfl ?_
     conv=>whnf
     refine sd_d (by omega) ?_
     conv=>whnf
     refine ⟨i+1,by omega,by omega,weak_r ⟨⟨rfl,rfl,rfl,rfl,rfl⟩,⟨rfl,rfl,rfl,rfl, ?_⟩,trivial⟩ ⟨rfl,trivial,trivial,rfl,rfl,rfl,trivial⟩⟩
     have:=t_end (a:=a) (i:=i) (ln_high b)
     simp only [hT,hX] at this
     subst hk2
     rw [←this, ←dl_set _ hcl, ←us_set]
     congr 3
     omega
  ·have hi2:i=(ln a).length:=by omega
   refine call_frz 1 (call_eq rfl rfl (trim_c (dl m (a%4294967296^i*b)) (lim_dl _ _) (by rw [dl_length];omega)) rfl ?_)
   conv=>whnf
   refine ⟨?_,trivial⟩
   conv=>whnf
   have hA:=ln_high a
   have hB:=ln_high b
   have:=Nat.mul_lt_mul'' hA hB
   rw [←Nat.pow_add,hm] at this
   rw [lv_dl,hi2,Nat.mod_eq_of_lt hA,Nat.mod_eq_of_lt this]
def by8(l:List UInt8):List D:=l.map fun b=> .v (.int .u8 (b.toNat:Int))
theorem by8_length(l:List UInt8):(by8 l).length=l.length:=by simp [by8]
theorem by8_uni(l:List UInt8):Uni 1 (by8 l):=by
 intro x hx
 simp only [by8,List.mem_map] at hx
 obtain ⟨n,_,rfl⟩:=hx
 rfl
theorem by8_all(l:List UInt8):allU8B (by8 l)=true:=by
 rw [allU8B_eq]
 intro x hx
 simp only [by8,List.mem_map] at hx
 obtain ⟨n,_,rfl⟩:=hx
 exact ⟨_,rfl⟩
theorem by8_str(l:List UInt8):bytS (by8 l)=⟨l.toArray⟩:=by
 unfold bytS by8
 congr 2
 rw [List.map_map]
 conv=>rhs;rw [←List.map_id l]
 refine List.map_congr_left fun b _=> ?_
 simp
theorem by8_app(a b:List UInt8):by8 a++by8 b=by8 (a++b):=by simp [by8]
theorem bv_by8(l:List UInt8):bv (bytS (by8 l))=bvl l:=by rw [by8_str];rfl
attribute [irreducible] by8
theorem byte_of(n:Nat):((n:Int))%256=((UInt8.ofNat n).toNat:Int):=by simp
theorem shr32(n k:Nat)(h:k≤32):Int.fdiv (n:Int) (2^min ((k:Int).toNat) IntKind.u32.bits)=((n/2^k:Nat):Int):=by
 rw [Int.toNat_natCast,show min k IntKind.u32.bits=k from Nat.min_eq_left h]
 rw [Int.fdiv_eq_ediv_of_nonneg _ (by exact Int.le_of_lt (Int.pow_pos (by omega)))]
 push_cast;rfl
theorem uni4(a b c d:Value):Uni 1 [D.v a,D.v b,D.v c,D.v d] :=by
 intro x hx;simp at hx;rcases hx with rfl|rfl|rfl|rfl<;>rfl
theorem store_c(a:Nat)(ha:(ln a).length<1000000000000):Fun Tryz.prog 227 [.l (us (ln a))] [.v (.string (nb a))] :=by
 have la:=us_length (ln a)
 refine fun_of_go (fun t=>false) mixed tOk Tryz.func227 rfl rfl ?_
 conv=>whnf
 refine sd_d (by omega) ?_
 conv=>whnf
 refine loop_intro (fun t=>false) (fun x:Nat×List UInt8=>⟨fr 41 [(0,.d (.l (us (ln a)))),(3,.own 0 0),(4,.d (i64 ((x.1:Int)-1)))], [.row 0 5 1 1 (by8 x.2)]⟩) (fun x=>x.1≤(ln a).length∧x.2.length+4*x.1=4*(ln a).length∧bvl x.2=a/4294967296^x.1) (fun x=>x.1) ((ln a).length, []) mixed tOk ⟨Nat.le_refl _,by simp, ?_⟩ ?_ ?_
 ·rw [Nat.div_eq_of_lt (ln_high a)];rfl
 ·refine weak_r ⟨⟨rfl,rfl,rfl,rfl, ?_⟩,trivial⟩ ⟨rfl,trivial, ?_,trivial⟩
  ·unfold by8;rfl
  ·conv=>whnf
   rw [la]
 ·rintro ⟨k,l⟩ ⟨hk,hl,hv⟩
  simp only at hk hl hv ⊢
  conv=>whnf
  have h8:=by8_length l
  refine cond_d (fun h2=> ?_) (fun h2=> ?_)<;>conv=>whnf
  ·obtain ⟨j,rfl⟩: ∃j,k=j+1:=⟨k-1,by omega⟩
   have e1:(((j+1:Nat):Int)-1).toNat=j:=by omega
   have i1:(us (ln a))[(((j+1:Nat):Int)-1).toNat]? =some (u32 ((a/4294967296^j%4294967296:Nat):Int)):=by rw [e1];exact ul_get (by omega)
   refine idx_intro _ i1 (by omega) (us_uni _) ?_
   conv=>whnf
   refine sd_d (by omega) ?_
   conv=>whnf
   refine idx_intro _ i1 (by omega) (us_uni _) ?_
   conv=>whnf
   refine sd_d (by omega) ?_
   conv=>whnf
   refine idx_intro _ i1 (by omega) (us_uni _) ?_
   conv=>whnf
   refine sd_d (by omega) ?_
   conv=>whnf
   refine idx_intro _ i1 (by omega) (us_uni _) ?_
   conv=>whnf
   refine sd_app (by8_uni _) (uni4 _ _ _ _) (by simp only [maxLen,List.length_cons,List.length_nil];omega) ?_
   conv=>whnf
   refine safe_intro (by kernel_rfl) ?_
   conv=>whnf
   refine sd_d (by omega) ?_
   conv=>whnf
   generalize hx:a/4294967296^j%4294967296=x
   have hx2:x<4294967296:=by rw [←hx];exact Nat.mod_lt _ (by omega)
   refine ⟨(j,l++ [UInt8.ofNat (x/2^24),UInt8.ofNat (x/2^16),UInt8.ofNat (x/2^8),UInt8.ofNat x]),⟨by simp only;omega,by simp only [List.length_append,List.length_cons,List.length_nil];omega, ?_⟩,by simp only;omega, ?_⟩
   ·simp only
    rw [show l++ [UInt8.ofNat (x/2^24),UInt8.ofNat (x/2^16),UInt8.ofNat (x/2^8),UInt8.ofNat x] =(((l++ [UInt8.ofNat (x/2^24)])++ [UInt8.ofNat (x/2^16)])++ [UInt8.ofNat (x/2^8)])++ [UInt8.ofNat x] by simp]
    rw [bvl_snoc,bvl_snoc,bvl_snoc,bvl_snoc,hv,div_step a j,hx]
    simp only [UInt8.toNat_ofNat']
    omega
   ·refine weak_r ⟨⟨rfl,rfl,rfl,rfl, ?_⟩,trivial⟩ ⟨rfl,trivial, ?_,trivial⟩
    ·rw [←by8_app]
     congr 1
     have a1:=shr32 x 24 (by omega)
     have a2:=shr32 x 16 (by omega)
     have a3:=shr32 x 8 (by omega)
     unfold by8
     simp only [List.map_cons,List.map_nil, ←byte_of]
     rw [←a1, ←a2, ←a3];rfl
    ·conv=>whnf
     omega
  ·have hk0:k=0:=by omega
   subst hk0
   refine sd_intro (by8_all _) ?_
   conv=>whnf
   refine call_data rfl rfl (strip_c _) ?_
   conv=>whnf
   refine ⟨?_,trivial⟩
   conv=>whnf
   rw [bv_by8,hv];simp
end Go.Nv
end
