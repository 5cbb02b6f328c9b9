import Derived.Test.YtlmmifgminkdkaaGreatNxT1
import Derived.Test.YtlmmifgminkdkaaGreatNxN5
import Derived.Test.YtlmmifgminkdkaaGreatNxP1
set_option linter.all false
set_option maxRecDepth 100000
section
namespace Go.Nv
open Go.Proofs Nw
theorem qzo:bv ⟨#[]⟩=0:=rfl
theorem qlL{s:ByteArray}(h:(!s==(⟨#[]⟩:ByteArray))=true):0<s.data.toList.length:=by
 rcases s with ⟨⟨l⟩⟩
 cases l with
 |nil=>exact absurd h (by decide)
 |cons x l=>simp
theorem qoX{s:ByteArray}(h:(!s==(⟨#[]⟩:ByteArray))=false):s=⟨#[]⟩:=by rw [qbN] at h;simpa using h
theorem qpZ(s0:ByteArray):Fun Tryz.prog 179 [.v (.string s0)] [.v (.string (nb (bv s0)))] :=by
 refine qad (fun t=>false) mixed tOk Tryz.func179 rfl rfl ?_
 conv=>whnf
 refine qah (fun t=>false) (fun s:ByteArray=>⟨fr 13 [(0,.d (.v (.string s))),(2,.d (.v (.string ⟨#[]⟩)))], []⟩) (fun s=>bv s=bv s0) (fun s=>s.size) s0 mixed tOk rfl (qa7 trivial ⟨rfl,rfl,trivial⟩) ?_
 intro s hs
 conv=>whnf
 refine qby (fun h=> ?_) (fun h=> ?_)
 ·conv=>whnf
  have h1:=qlL h
  rcases s with ⟨⟨l⟩⟩
  cases l with
  |nil=>simp at h1
  |cons x l=>
   have hsz:(ByteArray.mk ⟨x::l⟩).size=l.length+1:=rfl
   have hb:bt (ByteArray.mk ⟨x::l⟩) 0=x.toNat:=by simp [bt,hsz];rfl
   refine qak ⟨by omega,by rw [hsz];omega⟩ ?_
   conv=>whnf
   refine qa9 (fun h2=> ?_) (fun h2=> ?_)
   ·have hx:x=0:=by rw [hb] at h2;exact UInt8.toNat_inj.1 (by simpa using h2)
    conv=>whnf
    refine qak ⟨by omega,by rw [hsz];omega,by omega⟩ ?_
    have he:(ByteArray.mk ⟨x::l⟩).extract 1 (ByteArray.mk ⟨x::l⟩).size=⟨⟨l⟩⟩:=by
     rw [hsz];exact qgl x l _ rfl
    refine ⟨⟨⟨l⟩⟩, ?_, ?_, ?_⟩
    ·rw [<-hs];simp [bv,qem,hx]
    ·rw [hsz];exact Nat.lt_succ_self _
    ·refine qa7 trivial ⟨?_,rfl,trivial⟩
     exact he
   ·have hx:x≠0:=by intro hx;subst hx;exact h2 hb
    conv=>whnf
    refine ⟨?_,trivial⟩
    conv=>whnf
    rw [<-hs]
    show (_:ByteArray)=⟨(nbl (bvl (x::l))).toArray⟩
    rw [qgh x hx]
 ·conv=>whnf
  refine ⟨?_,trivial⟩
  conv=>whnf
  rw [<-hs,qoX h]
  rfl
def us(l:List Nat):List D:=l.map fun (n:Nat)=> .v (.int .u32 (n:Int))
theorem qan(l:List Nat):(us l).length=l.length:=by simp [us]
theorem qeJ{l:List Nat}{i:Nat}{x:Nat}(h:l[i]? =some x):(us l)[i]? =some (.v (.int .u32 (x:Int))):=by simp [us,h]
theorem qaq(l:List Nat):Uni 1 (us l):=by
 intro x hx
 simp only [us,List.mem_map] at hx
 obtain ⟨n,_,rfl⟩:=hx
 rfl
theorem qzb(l:List Nat)(a b:Nat):qcr (us l) a b=us ((l.take b).drop a):=by simp [qcr,us,List.map_drop,List.map_take]
theorem qop{l:List Nat}{x:Nat}(h:0<l.length)(hx:l[l.length-1]? =some x):l=l.take (l.length-1)++ [x] :=by
 have h2:l.length-1<l.length:=by omega
 rw [List.getElem?_eq_getElem h2] at hx
 have h3:l.take (l.length-1+1)=l:=List.take_of_length_le (by omega)
 rw [List.take_succ_eq_append_getElem h2] at h3
 simp at hx
 rw [hx] at h3
 exact h3.symm
attribute [irreducible] us
theorem trim_c(l0:List Nat)(h0:Lim l0)(hz:l0.length<4000000000000):Fun Tryz.prog 177 [.l (us l0)] [.l (us (ln (lv l0)))] :=by
 refine qad (fun t=>false) mixed tOk Tryz.func177 rfl rfl ?_
 conv=>whnf
 refine qah (fun t=>false) (fun l:List Nat=>⟨fr 21 [(0,.d (.l (us l))),(2,.own 0 0)], [.row 0 192 1 4 []]⟩) (fun l=>Lim l/\lv l=lv l0/\l.length<4000000000000) (fun l=>l.length) l0 mixed tOk ⟨h0,rfl,hz⟩ (qa7 ⟨⟨rfl,rfl,rfl,rfl,rfl⟩,trivial⟩ ⟨rfl,trivial,trivial⟩) ?_
 rintro l ⟨hl,hv,hz⟩
 conv=>whnf
 have hL:=qan l
 refine qaf (fun h=> ?_) (fun h=> ?_)
 ·conv=>whnf
  have h1:0<l.length:=by omega
  obtain ⟨x,hx⟩: ∃x,l[l.length-1]? =some x:=⟨_,List.getElem?_eq_getElem (by omega)⟩
  have hlx:=qop h1 hx
  refine qak ⟨by omega,by omega⟩ ?_
  conv=>whnf
  refine qae _ (qeJ (x:=x) (by rw [<-hx];congr 1;omega)) (by omega) (qaq l) ?_
  conv=>whnf
  refine qa9 (fun h2=> ?_) (fun h2=> ?_)
  ·conv=>whnf
   have hx0:x=0:=by omega
   refine qak ⟨by omega,by omega⟩ ?_
   conv=>whnf
   refine qa0 ⟨by omega,by omega,by omega⟩ (qaq l) ?_
   refine ⟨l.take (l.length-1),⟨fun y hy=>hl y (List.mem_of_mem_take hy), ?_,by simp;omega⟩,by simp;omega, ?_⟩
   ·rw [<-hv];conv=>rhs;rw [hlx,hx0]
    rw [qgr]
   ·refine qa7 ⟨⟨rfl,rfl,rfl,rfl,rfl⟩,trivial⟩ ⟨?_,⟨trivial,trivial⟩⟩
    conv=>whnf
    rw [qzb]
    congr 1
    rw [show (((us l).length:Int)-1).toNat=l.length-1 from by omega];rfl
  ·conv=>whnf
   have hx0:x≠0:=by omega
   refine ⟨?_,trivial⟩
   conv=>whnf
   rw [<-hv,qyt hl ?_]
   intro hn
   rw [hlx] at hn
   simp at hn;exact hx0 hn
 ·conv=>whnf
  have h1:l= [] :=by
   apply List.eq_nil_of_length_eq_zero
   omega
  refine ⟨?_,trivial⟩
  conv=>whnf
  rw [<-hv,h1]
  simp only [lv,qaR]
abbrev u32(n:Int):D:= .v (.int .u32 n)
abbrev i64(n:Int):D:= .v (.int .i64 n)
theorem wrap32(z:BitVec 32):IntKind.u32.wrap (z.toNat:Int)=z.toNat:=by
 have:=z.isLt
 simp [IntKind.wrap,IntKind.bits,IntKind.signed];omega
theorem ofInt32(z:BitVec 32):BitVec.ofInt 32 (z.toNat:Int)=z:=by
 apply BitVec.eq_of_toNat_eq
 have:=z.isLt
 simp [BitVec.toNat_ofInt]
theorem qx3:BitVec.ofInt 32 (if IntKind.u32.signed=true then-1 else IntKind.u32.max)=BitVec.allOnes 32:=by decide
theorem qwa{x:Int}(h:0<=x/\x<4294967296):((BitVec.ofInt 32 x).toNat:Int)=x:=by
 simp [BitVec.toNat_ofInt];omega
theorem qwG{x:Int}(h:0<=x/\x<4294967296):(BitVec.ofInt 32 x).msb=decide (2147483648<=x):=by
 rw [BitVec.msb_eq_decide]
 have:=qwa h
 simp only [Nat.reduceSub,Nat.reducePow]
 rw [Bool.eq_iff_iff,decide_eq_true_eq,decide_eq_true_eq];omega
theorem qCt(z:BitVec 32):((z.toNat:Int)).fdiv (2^min (Int.toNat 31) 32)=if z.msb then 1 else 0:=by
 rw [BitVec.msb_eq_decide]
 have:=z.isLt
 rw [Int.fdiv_eq_ediv_of_nonneg _ (by decide)]
 simp only [Nat.reduceSub,Nat.reducePow,decide_eq_true_eq]
 have e:((2:Int)^min (Int.toNat 31) 32)=2147483648:=by decide
 rw [e]
 split<;>omega
theorem qi1(x y b:Int)(hx:0<=x/\x<4294967296)(hy:0<=y/\y<4294967296)(hb:b=0\/b=1):Fun Tryz.prog 240 [u32 x,u32 y,u32 b] [u32 ((x-y-b)%4294967296),u32 (if x<y+b then 1 else 0)] :=by
 refine qad (fun t=>false) mixed tOk Tryz.func240 rfl rfl ?_
 conv=>whnf
 refine qak (by omega) ?_
 conv=>whnf
 refine ⟨?_, ?_,trivial⟩
 ·conv=>whnf
  omega
 ·conv=>whnf
  have hd:0<=((x-y)%4294967296-b)%4294967296/\((x-y)%4294967296-b)%4294967296<4294967296:=by omega
  have hv:((x-y)%4294967296-b)%4294967296=x-y-b\/((x-y)%4294967296-b)%4294967296=x-y-b+4294967296:=by omega
  generalize ((x-y)%4294967296-b)%4294967296=z at hd hv
  show (IntKind.u32.wrap (BitVec.toNat (BitVec.ofInt 32 (IntKind.u32.wrap (BitVec.toNat (BitVec.ofInt 32 (IntKind.u32.wrap (BitVec.toNat (BitVec.ofInt 32 (if IntKind.u32.signed=true then-1 else IntKind.u32.max)^^^BitVec.ofInt 32 x)))&&&BitVec.ofInt 32 y)))|||
   BitVec.ofInt 32 (IntKind.u32.wrap (BitVec.toNat (BitVec.ofInt 32 (IntKind.u32.wrap (BitVec.toNat (BitVec.ofInt 32 (if IntKind.u32.signed=true then-1 else IntKind.u32.max)^^^BitVec.ofInt 32 (IntKind.u32.wrap (BitVec.toNat (BitVec.ofInt 32 x^^^BitVec.ofInt 32 y))))))&&&BitVec.ofInt 32 z)))))).fdiv (2^min (Int.toNat 31) 32)=if x<y+b then 1 else 0
  simp only [wrap32,ofInt32,qx3]
  rw [qCt]
  simp only [BitVec.msb_or,BitVec.msb_and,BitVec.msb_xor,show (BitVec.allOnes 32).msb=true from by decide,qwG hx,qwG hy,qwG hd]
  by_cases c1:2147483648<=x<;>by_cases c2:2147483648<=y<;>by_cases c3:2147483648<=z<;>simp [c1,c2,c3] <;>omega
theorem qxj(x y b:Int)(hx:0<=x/\x<4294967296)(hy:0<=y/\y<4294967296)(hb:b=0\/b=1):Fun Tryz.prog 328 [u32 x,u32 y,u32 b] [u32 ((x+y+b)%4294967296),u32 ((x+y+b)/4294967296)] :=by
 refine qad (fun t=>false) mixed tOk Tryz.func328 rfl rfl ?_
 conv=>whnf
 refine qak (by omega) ?_
 conv=>whnf
 refine ⟨?_, ?_,trivial⟩
 ·conv=>whnf
  omega
 ·conv=>whnf
  rw [Int.fdiv_eq_ediv_of_nonneg _ (by decide)]
  have e:((2:Int)^min (Int.toNat 32) 64)=4294967296:=by decide
  show _/((2:Int)^min (Int.toNat 32) 64)%_=_
  rw [e];omega
theorem qCd{h l:Int}(hh:0<=h/\h<4294967296)(hl:0<=l/\l<4294967296):IntKind.u64.wrap ((BitVec.ofInt 64 (h*4294967296)|||BitVec.ofInt 64 l).toNat:Int)=h*4294967296+l:=by
 obtain ⟨a,rfl⟩:=Int.eq_ofNat_of_zero_le hh.1
 obtain ⟨b,rfl⟩:=Int.eq_ofNat_of_zero_le hl.1
 have ha:a<4294967296:=by omega
 have hb:b<2^32:=by omega
 have e1:(BitVec.ofInt 64 ((a:Int)*4294967296)).toNat=a<<<32:=by
  have e:((a:Int)*4294967296)=((a*4294967296:Nat):Int):=by omega
  rw [e,BitVec.ofInt_natCast,BitVec.toNat_ofNat,Nat.mod_eq_of_lt (by omega),Nat.shiftLeft_eq]
 have e2:(BitVec.ofInt 64 (b:Int)).toNat=b:=by
  rw [BitVec.ofInt_natCast,BitVec.toNat_ofNat,Nat.mod_eq_of_lt (by omega)]
 have e3:=Nat.shiftLeft_add_eq_or_of_lt hb a
 rw [BitVec.toNat_or,e1,e2, <-e3,Nat.shiftLeft_eq,qeA .u64 _ trivial]
 simp only [wrV]
 omega
theorem qw0(h l d:Int)(hh:0<=h/\h<d)(hl:0<=l/\l<4294967296)(hd:d<4294967296):Fun Tryz.prog 326 [u32 h,u32 l,u32 d] [u32 ((h*4294967296+l)/d),u32 ((h*4294967296+l)%d)] :=by
 have hq:(h*4294967296+l)/d<4294967296:=Int.ediv_lt_of_lt_mul (by omega) (by have:=Int.mul_le_mul_of_nonneg_left (show h+1<=d by omega) (show (0:Int)<=4294967296 by omega);omega)
 have hq0:0<=(h*4294967296+l)/d:=Int.ediv_nonneg (by omega) (by omega)
 have hr0:=Int.emod_nonneg (h*4294967296+l) (show d≠0 by omega)
 have hr1:=Int.emod_lt_of_pos (h*4294967296+l) (show 0<d by omega)
 refine qad (fun t=>false) mixed tOk Tryz.func326 rfl rfl ?_
 conv=>whnf
 refine qav (fun _=> ?_) (fun h=>by omega)
 conv=>whnf
 refine qaU (by omega) ?_
 conv=>whnf
 refine qak (by omega) ?_
 conv=>whnf
 refine qak (by omega) ?_
 conv=>whnf
 refine qak (by omega) ?_
 conv=>whnf
 refine qac (by kernel_rfl) ?_
 conv=>whnf
 have e0:IntKind.u64.wrap (BitVec.toNat (BitVec.ofInt 64 (h%18446744073709551616*2^min (Int.toNat 32) IntKind.u64.bits%18446744073709551616)|||BitVec.ofInt 64 (l%18446744073709551616)))=h*4294967296+l:=by
  have e:((2:Int)^min (Int.toNat 32) IntKind.u64.bits)=4294967296:=by decide
  rw [e,show h%18446744073709551616*4294967296%18446744073709551616=h*4294967296 from by omega,show l%18446744073709551616=l from by omega]
  exact qCd (by omega) hl
 have ed:d%18446744073709551616=d:=by omega
 refine ⟨?_, ?_,trivial⟩
 ·conv=>whnf
  show Int.tdiv (IntKind.u64.wrap (BitVec.toNat (BitVec.ofInt 64 (h%18446744073709551616*2^min (Int.toNat 32) IntKind.u64.bits%18446744073709551616)|||BitVec.ofInt 64 (l%18446744073709551616)))) (d%18446744073709551616)%18446744073709551616%4294967296=_
  rw [e0,ed,Int.tdiv_eq_ediv_of_nonneg (by omega)]
  omega
 ·conv=>whnf
  show Int.tmod (IntKind.u64.wrap (BitVec.toNat (BitVec.ofInt 64 (h%18446744073709551616*2^min (Int.toNat 32) IntKind.u64.bits%18446744073709551616)|||BitVec.ofInt 64 (l%18446744073709551616)))) (d%18446744073709551616)%4294967296=_
  rw [e0,ed,Int.tmod_eq_emod_of_nonneg (by omega)]
  omega
theorem qcS(l:List Nat)(i:Nat)(x:Nat):(us l).set i (.v (.int .u32 (x:Int)))=us (l.set i x):=by
 unfold us;rw [List.map_set]
theorem qh1(n:Nat):List.replicate n (D.v (.int .u32 0))=us (List.replicate n 0):=by
 unfold us;simp
theorem qcI(l:List Nat): ∀x∈us l,∃u,x=D.v u:=by
 unfold us;intro x hx;simp only [List.mem_map] at hx;obtain ⟨n,_,rfl⟩:=hx;exact ⟨_,rfl⟩
theorem qdg(v:Nat):(nb v).size=(nbl v).length:=rfl
theorem qD3{v i:Nat}(h:i<(nbl v).length):bt (nb v) ((((nbl v).length:Int)-1)-i)=((v/256^i%256:Nat):Int):=by
 obtain ⟨x,h1,h2⟩:=qsx (nbl v) i h
 rw [qcs] at h2
 have e:((((nbl v).length:Int)-1)-i).toNat=(nbl v).length-1-i:=by omega
 unfold bt
 rw [e]
 have hs:(nbl v).length-1-i<(nb v).size:=by rw [qdg];omega
 rw [dif_pos hs,h2]
 have:(nb v)[(nbl v).length-1-i] =x:=by
  have h3:(nbl v)[(nbl v).length-1-i]? =some (nb v)[(nbl v).length-1-i] :=by
   rw [List.getElem?_eq_getElem (by omega)];rfl
  rw [h1] at h3;exact (Option.some.inj h3).symm
 rw [this]
theorem qfH{a:Nat}(h:a<4294967296):(BitVec.ofInt 32 (a:Int)).toNat=a:=by
 rw [BitVec.ofInt_natCast,BitVec.toNat_ofNat,Nat.mod_eq_of_lt (by omega)]
theorem qET{a b k:Nat}(ha:a<2^k)(h:a+b*2^k<4294967296):IntKind.u32.wrap ((BitVec.ofInt 32 (a:Int)|||BitVec.ofInt 32 ((b*2^k:Nat):Int)).toNat:Int)=((a+b*2^k:Nat):Int):=by
 rw [wrap32,BitVec.toNat_or,qfH (by omega),qfH (by omega), <-Nat.shiftLeft_eq,Nat.or_comm,qAz ha,Nat.shiftLeft_eq]
theorem qdv(s0:ByteArray)(hz:s0.size<1000000000000):Fun Tryz.prog 127 [.v (.string s0)] [.l (us (ln (bv s0)))] :=by
 have hle:(nbl (bv s0)).length<=s0.size:=qba (qaV _)
 refine qad (fun t=>false) mixed tOk Tryz.func127 rfl rfl ?_
 conv=>whnf
 refine qaa rfl rfl (qpZ s0) ?_
 generalize bv s0=v at hle ⊢
 have hsz:=qdg v
 have hlen:(nbl v).length<1000000000000:=by omega
 conv=>whnf
 refine qak (by omega) ?_
 conv=>whnf
 refine qak (by omega) ?_
 conv=>whnf
 have e3:Int.tdiv (((nb v).size:Int)+4-1) 4=(((nbl v).length+3)/4:Nat):=by
  rw [hsz,Int.tdiv_eq_ediv_of_nonneg (by omega)];omega
 refine qcU (by omega) (by rw [e3];omega) ?_
 conv=>whnf
 refine qak (by rw [e3];simp only [maxLen];omega) ?_
 conv=>whnf
 refine qah (fun t=>false) (fun i:Nat=>⟨fr 41 [(0,.d (.v (.string (nb v)))),(2,.own 0 0),(3,.own 1 0),(15,.d (i64 ((nb v).size))),(16,.d (i64 i))], [.row 0 192 1 4 [],.row 0 192 1 4 (us (dl (((nbl v).length+3)/4) (v%256^i)))]⟩) (fun i=>i<=(nbl v).length) (fun i=>(nbl v).length-i) 0 mixed tOk (Nat.zero_le _) ?_ ?_
 conv=>whnf
 ·refine qa7 ⟨⟨rfl,rfl,rfl,rfl,rfl⟩,⟨rfl,rfl,rfl,rfl, ?_⟩,trivial⟩ ?_
  ·rw [e3,qh1,Nat.pow_zero,Nat.mod_one,dl_zero];rfl
  ·exact ⟨rfl,trivial,trivial,rfl,rfl,trivial⟩
 ·intro i hi
  conv=>whnf
  refine qaf (fun h=> ?_) (fun h=> ?_)
  conv=>whnf
  ·have hi':i<(nbl v).length:=by omega
   refine qak (by omega) ?_
   conv=>whnf
   refine qak (by omega) ?_
   conv=>whnf
   have hq:Int.tdiv (i:Int) 4=((i/4:Nat):Int):=by rw [Int.tdiv_eq_ediv_of_nonneg (by omega)];omega
   have hl:(us (dl (((nbl v).length+3)/4) (v%256^i))).length=((nbl v).length+3)/4:=by rw [qan,dl_length]
   have hV:v%256^i<256^i:=Nat.mod_lt _ (Nat.pow_pos (by omega))
   obtain ⟨old,o1,o2,o3,o4⟩:=qwk (m:=((nbl v).length+3)/4) (b:=v/256^i%256) hV (Nat.mod_lt _ (by omega)) (show i<4*(((nbl v).length+3)/4) by omega)
   rw [<-qsq] at o4
   refine qcU (by omega) (by rw [hq];omega) ?_
   conv=>whnf
   refine qa0 (by rw [hq,hl];omega) (qaq _) ?_
   conv=>whnf
   refine qbb (i:=i/4) (r:=0) _ _ (qeJ o1) (by rw [hq];omega) (by omega) (qaq _) rfl ?_
   conv=>whnf
   refine qak (by rw [hsz];omega) ?_
   conv=>whnf
   refine qak (by omega) ?_
   conv=>whnf
   have hm:Int.tmod (i:Int) 4=((i%4:Nat):Int):=by rw [Int.tmod_eq_emod_of_nonneg (by omega)];omega
   refine qak (by rw [hm];omega) ?_
   conv=>whnf
   refine qak (by rw [hm];omega) ?_
   conv=>whnf
   refine qa0 (by rw [hq,hl];omega) (qaq _) ?_
   conv=>whnf
   rw [hq,hm,hsz,Int.toNat_natCast]
   refine qaM (by rw [hl];omega) (qcI _) rfl ?_
   conv=>whnf
   refine qac (by kernel_rfl) ?_
   conv=>whnf
   refine qak (by omega) ?_
   conv=>whnf
   refine ⟨i+1,hi',by omega,qa7 ⟨⟨rfl,rfl,rfl,rfl,rfl⟩,⟨rfl,rfl,rfl,rfl, ?_⟩,trivial⟩ ⟨rfl,trivial,trivial,rfl,rfl,trivial⟩⟩
   rw [o4, <-qcS,qD3 hi']
   congr 3
   have hk:(256:Nat)^(i%4)=2^(8*(i%4)):=by rw [show 256=2^8 from rfl, <-Nat.pow_mul]
   rw [hk] at o2 o3 ⊢
   rw [<-qET o2 o3]
   congr 5
   have e:min (8*((i%4:Nat):Int)).toNat IntKind.u32.bits=8*(i%4):=by
    show min _ 32=_
    omega
   rw [e]
   generalize v/256^i=z at o3 ⊢
   generalize 8*(i%4)=k at o3 ⊢
   have:((z%256:Nat):Int)*2^k=((z%256*2^k:Nat):Int):=by push_cast;rfl
   rw [show ((z%256:Nat):Int)%4294967296=((z%256:Nat):Int) from by omega,this]
   omega
  ·refine ⟨?_,trivial⟩
   conv=>whnf
   rw [show i=(nbl v).length from by omega,Nat.mod_eq_of_lt (qnm v),qy8]
theorem qb9{a i:Nat}(h:i<(ln a).length):(us (ln a))[i]? =some (u32 ((a/4294967296^i%4294967296:Nat):Int)):=qeJ (quI h)
theorem qbR(a b:Nat)(ha:(ln a).length<1000000000000)(hb:(ln b).length<1000000000000):Fun Tryz.prog 135 [.l (us (ln a)),.l (us (ln b))] [i64 (qcA a b)] :=by
 have la:=qan (ln a)
 have lb:=qan (ln b)
 refine qad (fun t=>false) mixed tOk Tryz.func135 rfl rfl ?_
 conv=>whnf
 refine qav (fun h=> ?_) (fun h=> ?_)
 conv=>whnf
 ·refine qaf (fun h2=> ?_) (fun h2=> ?_)
  conv=>whnf
  ·refine ⟨?_,trivial⟩
   conv=>whnf
   have:=qd1 (a:=a) (b:=b) (by omega)
   simp only [qcA,if_pos this]
  ·refine ⟨?_,trivial⟩
   conv=>whnf
   have:=qd1 (a:=b) (b:=a) (by omega)
   simp only [qcA,if_neg (Nat.lt_asymm this),if_pos this]
 ·refine qak (by omega) ?_
  conv=>whnf
  refine qah (fun t=>false) (fun k:Nat=>⟨fr 43 [(0,.d (.l (us (ln a)))),(1,.d (.l (us (ln b)))),(4,.d (i64 0)),(5,.d (i64 (k-1)))], []⟩) (fun k=>k<=(ln a).length/\a/4294967296^k=b/4294967296^k) (fun k=>k) (ln a).length mixed tOk ⟨Nat.le_refl _, ?_⟩ ?_ ?_
  conv=>whnf
  ·rw [Nat.div_eq_of_lt (qax a),show (ln a).length=(ln b).length by omega,Nat.div_eq_of_lt (qax b)]
  ·exact qa7 trivial ⟨rfl,rfl,rfl,by rw [la];rfl,trivial⟩
  ·rintro k ⟨hk,he⟩
   conv=>whnf
   refine qaf (fun h2=> ?_) (fun h2=> ?_)
   conv=>whnf
   ·obtain ⟨j,rfl⟩: ∃j,k=j+1:=⟨k-1,by omega⟩
    have e1:(((j+1:Nat):Int)-1).toNat=j:=by omega
    have i1:(us (ln a))[(((j+1:Nat):Int)-1).toNat]? =some (u32 ((a/4294967296^j%4294967296:Nat):Int)):=by rw [e1];exact qb9 (by omega)
    have i2:(us (ln b))[(((j+1:Nat):Int)-1).toNat]? =some (u32 ((b/4294967296^j%4294967296:Nat):Int)):=by rw [e1];exact qb9 (by omega)
    refine qae _ i1 (by omega) (qaq _) ?_
    conv=>whnf
    refine qae _ i2 (by omega) (qaq _) ?_
    conv=>whnf
    refine qac (by kernel_rfl) ?_
    conv=>whnf
    refine qaf (fun h3=> ?_) (fun h3=> ?_)
    conv=>whnf
    ·refine ⟨?_,trivial⟩
     conv=>whnf
     have:=qqO he (by omega)
     simp only [qcA,if_pos this]
    ·refine qae _ i1 (by omega) (qaq _) ?_
     conv=>whnf
     refine qae _ i2 (by omega) (qaq _) ?_
     conv=>whnf
     refine qac (by kernel_rfl) ?_
     conv=>whnf
     refine qaf (fun h4=> ?_) (fun h4=> ?_)
     conv=>whnf
     ·refine ⟨?_,trivial⟩
      conv=>whnf
      have:=qqO he.symm (by omega)
      simp only [qcA,if_neg (Nat.lt_asymm this),if_pos this]
     ·refine qak (by omega) ?_
      conv=>whnf
      refine ⟨j,⟨by omega,qpa he (by omega)⟩,by omega,qa7 trivial ⟨rfl,rfl,rfl, ?_,trivial⟩⟩
      conv=>whnf
      omega
   ·refine ⟨?_,trivial⟩
    conv=>whnf
    have:k=0:=by omega
    subst this
    simp at he
    subst he
    simp [qcA]
theorem qof(n:Nat):Int.fdiv (n:Int) (2^min (Int.toNat 32) IntKind.u64.bits)=((n/4294967296:Nat):Int):=by
 rw [Int.fdiv_eq_ediv_of_nonneg _ (by decide)]
 have e:((2:Int)^min (Int.toNat 32) IntKind.u64.bits)=4294967296:=by decide
 rw [e];omega
theorem qiI(a b:List Nat):us a++us b=us (a++b):=by unfold us;simp
theorem qiC(x:Nat): [u32 (x:Int)] =us [x] :=by unfold us;rfl
theorem qxI(v:Value):Uni 1 [D.v v] :=by intro x hx;simp at hx;subst hx;rfl
theorem qtF(a b:Nat)(ha:(ln a).length<1000000000000)(hb:(ln b).length<1000000000000):Fun Tryz.prog 170 [.l (us (ln a)),.l (us (ln b))] [.l (us (ln (a+b)))] :=by
 refine qad (fun t=>false) mixed tOk Tryz.func170 rfl rfl ?_
 conv=>whnf
 refine qaf (fun h=> ?_) (fun h=> ?_)<;>conv=>whnf
 ·have lla:=qan (ln a)
  have llb:=qan (ln b)
  have hle:(ln a).length<=(ln b).length:=by omega
  have la:=qan (ln b)
  have lb:=qan (ln a)
  refine qak (by omega) ?_
  conv=>whnf
  refine qak (by simp only [maxLen];omega) ?_
  conv=>whnf
  refine qah (fun t=>false) (fun i:Nat=>⟨fr 56 [(1,.d (.l (us (ln a)))),(4,.own 0 0),(5,.own 1 0),(6,.d (.v (.int .u64 (car b a i)))),(20,.d (.l (us (ln b)))),(21,.d (i64 (us (ln b)).length)),(22,.d (i64 i))], [.row 0 192 1 4 [],.row 0 192 1 4 (us (dl i (b+a)))]⟩) (fun i=>i<=(ln b).length) (fun i=>(ln b).length-i) 0 mixed tOk (Nat.zero_le _) ?_ ?_
  ·refine qag ⟨⟨rfl,rfl,rfl,rfl,rfl⟩,⟨rfl,rfl,rfl,rfl, ?_⟩,trivial⟩ ⟨rfl,trivial,trivial, ?_,rfl,rfl,rfl,trivial⟩
   ·unfold us;rfl
   ·conv=>whnf
    simp [car,Nat.mod_one]
  ·intro i hi
   conv=>whnf
   have hc:=car_le b a i
   obtain ⟨s1,s2⟩:=car_step b a i
   have hdl:=dl_length i (b+a)
   have hul:=qan (dl i (b+a))
   refine qaf (fun h2=> ?_) (fun h2=> ?_)<;>conv=>whnf
   ·refine qae _ (qb9 (a:=b) (i:=i) (by omega)) (by omega) (qaq _) ?_
    conv=>whnf
    refine qaf (fun h3=> ?_) (fun h3=> ?_)<;>conv=>whnf
    ·refine qae _ (qb9 (a:=a) (i:=i) (by omega)) (by omega) (qaq _) ?_
     conv=>whnf
     refine qca (qaq _) (qxI _) (by simp only [maxLen,List.length_cons,List.length_nil];omega) ?_
     conv=>whnf
     refine qak (by omega) ?_
     conv=>whnf
     refine qak (by omega) ?_
     conv=>whnf
     have hlt:a/4294967296^i%4294967296<4294967296:=Nat.mod_lt _ (by omega)
     have hlt2:b/4294967296^i%4294967296<4294967296:=Nat.mod_lt _ (by omega)
     have e:((car b a i:Int)+((b/4294967296^i%4294967296:Nat):Int)%18446744073709551616)%18446744073709551616=((car b a i+b/4294967296^i%4294967296:Nat):Int):=by omega
     have e2:(((car b a i+b/4294967296^i%4294967296:Nat):Int)+((a/4294967296^i%4294967296:Nat):Int)%18446744073709551616)%18446744073709551616=((car b a i+b/4294967296^i%4294967296+a/4294967296^i%4294967296:Nat):Int):=by omega
     refine ⟨i+1,by omega,by omega, ?_⟩
     rw [e,e2]
     refine qag ⟨⟨rfl,rfl,rfl,rfl,rfl⟩,⟨rfl,rfl,rfl,rfl, ?_⟩,trivial⟩ ⟨rfl,trivial,trivial, ?_,rfl,rfl,rfl,trivial⟩
     ·rw [qeT, <-qiI, <-qiC, <-s1];congr 4
     ·conv=>whnf
      rw [qof,s2]
    ·refine qca (qaq _) (qxI _) (by simp only [maxLen,List.length_cons,List.length_nil];omega) ?_
     conv=>whnf
     refine qak (by omega) ?_
     conv=>whnf
     refine qak (by omega) ?_
     conv=>whnf
     have hz:a/4294967296^i=0:=qcg (by omega)
     have hlt2:b/4294967296^i%4294967296<4294967296:=Nat.mod_lt _ (by omega)
     have e:((car b a i:Int)+((b/4294967296^i%4294967296:Nat):Int)%18446744073709551616)%18446744073709551616=((car b a i+b/4294967296^i%4294967296+a/4294967296^i%4294967296:Nat):Int):=by rw [hz];omega
     refine ⟨i+1,by omega,by omega, ?_⟩
     rw [e]
     refine qag ⟨⟨rfl,rfl,rfl,rfl,rfl⟩,⟨rfl,rfl,rfl,rfl, ?_⟩,trivial⟩ ⟨rfl,trivial,trivial, ?_,rfl,rfl,rfl,trivial⟩
     ·rw [qeT, <-qiI, <-qiC, <-s1];congr 4
     ·conv=>whnf
      rw [qof,s2]
   ·have hi2:i=(ln b).length:=by omega
    refine qca (qaq _) (qxI _) (by simp only [maxLen,List.length_cons,List.length_nil];omega) ?_
    conv=>whnf
    refine qbn 1 (qa4 rfl rfl (trim_c (dl (i+1) (b+a)) (lim_dl _ _) (by rw [dl_length];omega)) ?_ ?_)
    ·rw [qeT, <-qiI, <-qiC]
     have e:(car b a i:Int)%4294967296=(((b+a)/4294967296^i%4294967296:Nat):Int):=by
      have hA:=qax b
      rw [<-hi2] at hA
      have hB:a<4294967296^i:=Nat.lt_of_lt_of_le (qax a) (Nat.pow_le_pow_right (by omega) (by omega))
      have:(b+a)/4294967296^i=car b a i:=by unfold car;rw [Nat.mod_eq_of_lt hA,Nat.mod_eq_of_lt hB]
      rw [this];omega
     rw [<-e];rfl
    ·conv=>whnf
     refine ⟨?_,trivial⟩
     conv=>whnf
     have hA:=qax b
     rw [<-hi2] at hA
     have hB:a<4294967296^i:=Nat.lt_of_lt_of_le (qax a) (Nat.pow_le_pow_right (by omega) (by omega))
     have hs:(b+a)%4294967296^(i+1)=a+b:=(Nat.mod_eq_of_lt (by rw [Nat.pow_succ];omega)).trans (by omega)
     rw [lv_dl,hs]
 ·have lla:=qan (ln a)
  have llb:=qan (ln b)
  have hle:(ln b).length<=(ln a).length:=by omega
  have la:=qan (ln a)
  have lb:=qan (ln b)
  refine qak (by omega) ?_
  conv=>whnf
  refine qak (by simp only [maxLen];omega) ?_
  conv=>whnf
  refine qah (fun t=>false) (fun i:Nat=>⟨fr 56 [(1,.d (.l (us (ln b)))),(4,.own 0 0),(5,.own 1 0),(6,.d (.v (.int .u64 (car a b i)))),(20,.d (.l (us (ln a)))),(21,.d (i64 (us (ln a)).length)),(22,.d (i64 i))], [.row 0 192 1 4 [],.row 0 192 1 4 (us (dl i (a+b)))]⟩) (fun i=>i<=(ln a).length) (fun i=>(ln a).length-i) 0 mixed tOk (Nat.zero_le _) ?_ ?_
  ·refine qag ⟨⟨rfl,rfl,rfl,rfl,rfl⟩,⟨rfl,rfl,rfl,rfl, ?_⟩,trivial⟩ ⟨rfl,trivial,trivial, ?_,rfl,rfl,rfl,trivial⟩
   ·unfold us;rfl
   ·conv=>whnf
    simp [car,Nat.mod_one]
  ·intro i hi
   conv=>whnf
   have hc:=car_le a b i
   obtain ⟨s1,s2⟩:=car_step a b i
   have hdl:=dl_length i (a+b)
   have hul:=qan (dl i (a+b))
   refine qaf (fun h2=> ?_) (fun h2=> ?_)<;>conv=>whnf
   ·refine qae _ (qb9 (a:=a) (i:=i) (by omega)) (by omega) (qaq _) ?_
    conv=>whnf
    refine qaf (fun h3=> ?_) (fun h3=> ?_)<;>conv=>whnf
    ·refine qae _ (qb9 (a:=b) (i:=i) (by omega)) (by omega) (qaq _) ?_
     conv=>whnf
     refine qca (qaq _) (qxI _) (by simp only [maxLen,List.length_cons,List.length_nil];omega) ?_
     conv=>whnf
     refine qak (by omega) ?_
     conv=>whnf
     refine qak (by omega) ?_
     conv=>whnf
     have hlt:b/4294967296^i%4294967296<4294967296:=Nat.mod_lt _ (by omega)
     have hlt2:a/4294967296^i%4294967296<4294967296:=Nat.mod_lt _ (by omega)
     have e:((car a b i:Int)+((a/4294967296^i%4294967296:Nat):Int)%18446744073709551616)%18446744073709551616=((car a b i+a/4294967296^i%4294967296:Nat):Int):=by omega
     have e2:(((car a b i+a/4294967296^i%4294967296:Nat):Int)+((b/4294967296^i%4294967296:Nat):Int)%18446744073709551616)%18446744073709551616=((car a b i+a/4294967296^i%4294967296+b/4294967296^i%4294967296:Nat):Int):=by omega
     refine ⟨i+1,by omega,by omega, ?_⟩
     rw [e,e2]
     refine qag ⟨⟨rfl,rfl,rfl,rfl,rfl⟩,⟨rfl,rfl,rfl,rfl, ?_⟩,trivial⟩ ⟨rfl,trivial,trivial, ?_,rfl,rfl,rfl,trivial⟩
     ·rw [qeT, <-qiI, <-qiC, <-s1];congr 4
     ·conv=>whnf
      rw [qof,s2]
    ·refine qca (qaq _) (qxI _) (by simp only [maxLen,List.length_cons,List.length_nil];omega) ?_
     conv=>whnf
     refine qak (by omega) ?_
     conv=>whnf
     refine qak (by omega) ?_
     conv=>whnf
     have hz:b/4294967296^i=0:=qcg (by omega)
     have hlt2:a/4294967296^i%4294967296<4294967296:=Nat.mod_lt _ (by omega)
     have e:((car a b i:Int)+((a/4294967296^i%4294967296:Nat):Int)%18446744073709551616)%18446744073709551616=((car a b i+a/4294967296^i%4294967296+b/4294967296^i%4294967296:Nat):Int):=by rw [hz];omega
     refine ⟨i+1,by omega,by omega, ?_⟩
     rw [e]
     refine qag ⟨⟨rfl,rfl,rfl,rfl,rfl⟩,⟨rfl,rfl,rfl,rfl, ?_⟩,trivial⟩ ⟨rfl,trivial,trivial, ?_,rfl,rfl,rfl,trivial⟩
     ·rw [qeT, <-qiI, <-qiC, <-s1];congr 4
     ·conv=>whnf
      rw [qof,s2]
   ·have hi2:i=(ln a).length:=by omega
    refine qca (qaq _) (qxI _) (by simp only [maxLen,List.length_cons,List.length_nil];omega) ?_
    conv=>whnf
    refine qbn 1 (qa4 rfl rfl (trim_c (dl (i+1) (a+b)) (lim_dl _ _) (by rw [dl_length];omega)) ?_ ?_)
    ·rw [qeT, <-qiI, <-qiC]
     have e:(car a b i:Int)%4294967296=(((a+b)/4294967296^i%4294967296:Nat):Int):=by
      have hA:=qax a
      rw [<-hi2] at hA
      have hB:b<4294967296^i:=Nat.lt_of_lt_of_le (qax b) (Nat.pow_le_pow_right (by omega) (by omega))
      have:(a+b)/4294967296^i=car a b i:=by unfold car;rw [Nat.mod_eq_of_lt hA,Nat.mod_eq_of_lt hB]
      rw [this];omega
     rw [<-e];rfl
    ·conv=>whnf
     refine ⟨?_,trivial⟩
     conv=>whnf
     have hA:=qax a
     rw [<-hi2] at hA
     have hB:b<4294967296^i:=Nat.lt_of_lt_of_le (qax b) (Nat.pow_le_pow_right (by omega) (by omega))
     have hs:(a+b)%4294967296^(i+1)=a+b:=(Nat.mod_eq_of_lt (by rw [Nat.pow_succ];omega)).trans (by omega)
     rw [lv_dl,hs]
theorem qjk(a b:Nat)(hab:b<=a)(ha:(ln a).length<1000000000000):Fun Tryz.prog 171 [.l (us (ln a)),.l (us (ln b))] [.l (us (ln (a-b)))] :=by
 have la:=qan (ln a)
 have lb:=qan (ln b)
 have hlen:=qa2 hab
 refine qad (fun t=>false) mixed tOk Tryz.func171 rfl rfl ?_
 conv=>whnf
 refine qak (by simp only [maxLen];omega) ?_
 conv=>whnf
 refine qah (fun t=>false) (fun i:Nat=>⟨fr 41 [(1,.d (.l (us (ln b)))),(4,.own 0 0),(5,.own 1 0),(6,.d (u32 (bor a b i))),(13,.d (.l (us (ln a)))),(14,.d (i64 (us (ln a)).length)),(15,.d (i64 i))], [.row 0 192 1 4 [],.row 0 192 1 4 (us (dl (ln a).length ((a-b)%4294967296^i)))]⟩) (fun i=>i<=(ln a).length) (fun i=>(ln a).length-i) 0 mixed tOk (Nat.zero_le _) ?_ ?_
 ·refine qag ⟨⟨rfl,rfl,rfl,rfl,rfl⟩,⟨rfl,rfl,rfl,rfl, ?_⟩,trivial⟩ ⟨rfl,trivial,trivial, ?_,rfl,rfl,rfl,trivial⟩
  ·rw [la,qh1,Nat.pow_zero,Nat.mod_one,dl_zero];rfl
  ·conv=>whnf
   rw [qiX];rfl
 ·intro i hi
  conv=>whnf
  have hrl:=qan (dl (ln a).length ((a-b)%4294967296^i))
  rw [dl_length] at hrl
  have hx:a/4294967296^i%4294967296<4294967296:=Nat.mod_lt _ (by omega)
  have hy:b/4294967296^i%4294967296<4294967296:=Nat.mod_lt _ (by omega)
  have hbo:=bor_le a b i
  have hd:=sub_dig a b i hab
  have hs:=bor_step a b i
  refine qaf (fun h2=> ?_) (fun h2=> ?_)<;>conv=>whnf
  ·refine qae _ (qb9 (a:=a) (i:=i) (by omega)) (by omega) (qaq _) ?_
   conv=>whnf
   have fin: ∀y:Nat,b/4294967296^i%4294967296=y->True:=fun _ _=>trivial
   refine qaf (fun h3=> ?_) (fun h3=> ?_)<;>conv=>whnf
   ·refine qae _ (qb9 (a:=b) (i:=i) (by omega)) (by omega) (qaq _) ?_
    conv=>whnf
    refine qa4 rfl rfl (qi1 ((a/4294967296^i%4294967296:Nat):Int) ((b/4294967296^i%4294967296:Nat):Int) (bor a b i:Nat) (by omega) (by omega) (by omega)) ?_ ?_
    ·first
      |rfl
      |(have hz:b/4294967296^i=0:=qcg (by omega)
        rw [hz];rfl)
    ·conv=>whnf
     refine qa0 (by omega) (qaq _) ?_
     conv=>whnf
     rw [Int.toNat_natCast]
     refine qaM (by omega) (qcI _) rfl ?_
     conv=>whnf
     refine qak (by omega) ?_
     conv=>whnf
     refine ⟨i+1,by omega,by omega, ?_⟩
     refine qag ⟨⟨rfl,rfl,rfl,rfl,rfl⟩,⟨rfl,rfl,rfl,rfl, ?_⟩,trivial⟩ ⟨rfl,trivial,trivial, ?_,rfl,rfl,rfl,trivial⟩
     ·rw [<-dl_mod_set (m:=(ln a).length) _ (by omega), <-qcS, <-hd]
     ·conv=>whnf
      rw [hs]
      split<;>split<;>first|rfl|omega
   ·refine qa4 rfl rfl (qi1 ((a/4294967296^i%4294967296:Nat):Int) ((b/4294967296^i%4294967296:Nat):Int) (bor a b i:Nat) (by omega) (by omega) (by omega)) ?_ ?_
    ·first
      |rfl
      |(have hz:b/4294967296^i=0:=qcg (by omega)
        rw [hz];rfl)
    ·conv=>whnf
     refine qa0 (by omega) (qaq _) ?_
     conv=>whnf
     rw [Int.toNat_natCast]
     refine qaM (by omega) (qcI _) rfl ?_
     conv=>whnf
     refine qak (by omega) ?_
     conv=>whnf
     refine ⟨i+1,by omega,by omega, ?_⟩
     refine qag ⟨⟨rfl,rfl,rfl,rfl,rfl⟩,⟨rfl,rfl,rfl,rfl, ?_⟩,trivial⟩ ⟨rfl,trivial,trivial, ?_,rfl,rfl,rfl,trivial⟩
     ·rw [<-dl_mod_set (m:=(ln a).length) _ (by omega), <-qcS, <-hd]
     ·conv=>whnf
      rw [hs]
      split<;>split<;>first|rfl|omega
  ·have hi2:i=(ln a).length:=by omega
   refine qbn 1 (qa4 rfl rfl (trim_c (dl (ln a).length ((a-b)%4294967296^i)) (lim_dl _ _) (by rw [dl_length];omega)) rfl ?_)
   conv=>whnf
   refine ⟨?_,trivial⟩
   conv=>whnf
   have hA:=qax a
   rw [lv_dl,hi2,Nat.mod_mod,Nat.mod_eq_of_lt (by omega)]
abbrev u64(n:Int):D:= .v (.int .u64 n)
theorem qwf(a b:Nat)(ha:(ln a).length<1000000000000)(hb:(ln b).length<1000000000000):Fun Tryz.prog 128 [.l (us (ln a)),.l (us (ln b))] [.l (us (ln (a*b)))] :=by
 have la:=qan (ln a)
 have lb:=qan (ln b)
 generalize hm:(ln a).length+(ln b).length=m
 refine qad (fun t=>false) mixed tOk Tryz.func128 rfl rfl ?_
 conv=>whnf
 refine qak (by omega) ?_
 conv=>whnf
 refine qak (by simp only [maxLen];omega) ?_
 conv=>whnf
 refine qah (fun t=>false) (fun i:Nat=>⟨fr 67 [(1,.d (.l (us (ln b)))),(4,.own 0 0),(5,.own 1 0),(17,.d (.l (us (ln a)))),(18,.d (i64 (us (ln a)).length)),(19,.d (i64 i))], [.row 0 192 1 4 [],.row 0 192 1 4 (us (dl m (a%4294967296^i*b)))]⟩) (fun i=>i<=(ln a).length) (fun i=>(ln a).length-i) 0 mixed tOk (Nat.zero_le _) ?_ ?_
 ·refine qag ⟨⟨rfl,rfl,rfl,rfl,rfl⟩,⟨rfl,rfl,rfl,rfl, ?_⟩,trivial⟩ ⟨rfl,trivial,trivial,rfl,rfl,rfl,trivial⟩
  rw [la,lb,qh1,Nat.pow_zero,Nat.mod_one,Nat.zero_mul,dl_zero, <-hm];rfl
 ·intro i hi
  conv=>whnf
  refine qaf (fun h2=> ?_) (fun h2=> ?_)<;>conv=>whnf
  ·refine qae _ (qb9 (a:=a) (i:=i) (by omega)) (by omega) (qaq _) ?_
   conv=>whnf
   have hx:a/4294967296^i%4294967296<4294967296:=Nat.mod_lt _ (by omega)
   refine qah (fun t=>false) (fun k:Nat=>⟨fr 67 [(1,.d (.l (us (ln b)))),(4,.own 0 0),(5,.own 1 0),(6,.d (i64 i)),(7,.d (u32 (a/4294967296^i%4294967296:Nat))),(8,.d (u64 (tC (a%4294967296^i*b) (a/4294967296^i%4294967296) b i k))),(17,.d (.l (us (ln a)))),(18,.d (i64 (us (ln a)).length)),(19,.d (i64 i)),(24,.d (.l (us (ln b)))),(25,.d (i64 (us (ln b)).length)),(26,.d (i64 k))], [.row 0 192 1 4 [],.row 0 192 1 4 (us (dl m (tR (a%4294967296^i*b) (a/4294967296^i%4294967296) b i k)))]⟩) (fun k=>k<=(ln b).length) (fun k=>(ln b).length-k) 0 mixed tOk (Nat.zero_le _) ?_ ?_
   ·refine qag ⟨⟨rfl,rfl,rfl,rfl,rfl⟩,⟨rfl,rfl,rfl,rfl, ?_⟩,trivial⟩ ⟨rfl,trivial,trivial,rfl,rfl, ?_,rfl,rfl,rfl,rfl,rfl,rfl,trivial⟩
    ·rw [tR_zero]
    ·conv=>whnf
     rw [tC_zero];rfl
   ·intro k hk
    conv=>whnf
    generalize hT:a%4294967296^i*b=T
    generalize hX:a/4294967296^i%4294967296=x at hx ⊢
    have hcl:=tC_lt (T:=T) (b:=b) (i:=i) (k:=k) hx
    have hrl:=qan (dl m (tR T x b i k))
    rw [dl_length] at hrl
    refine qaf (fun h3=> ?_) (fun h3=> ?_)<;>conv=>whnf
    ·refine qae _ (qb9 (a:=b) (i:=k) (by omega)) (by omega) (qaq _) ?_
     conv=>whnf
     refine qak (by omega) ?_
     conv=>whnf
     have ei:(((i:Int)+k).toNat)=i+k:=by omega
     refine qa0 (by omega) (qaq _) ?_
     conv=>whnf
     refine qbb (i:=i+k) (r:=0) _ _ (qeJ (dl_get (m:=m) (tR T x b i k) (show i+k<m by omega))) (by rw [ei];omega) (by omega) (qaq _) rfl ?_
     conv=>whnf
     refine qak (by omega) ?_
     conv=>whnf
     refine qa0 (by omega) (qaq _) ?_
     conv=>whnf
     rw [ei,t_dig]
     refine qaM (by omega) (qcI _) rfl ?_
     obtain ⟨s1,s2⟩:=t_step T x b i k
     have hy:b/4294967296^k%4294967296<4294967296:=Nat.mod_lt _ (by omega)
     have ho:T/4294967296^(i+k)%4294967296<4294967296:=Nat.mod_lt _ (by omega)
     have hxy:x*(b/4294967296^k%4294967296)<=4294967295*4294967295:=Nat.mul_le_mul (by omega) (by omega)
     generalize b/4294967296^k%4294967296=y at*
     generalize T/4294967296^(i+k)%4294967296=o at*
     have e1:((x:Int)%18446744073709551616*((y:Int)%18446744073709551616))=((x*y:Nat):Int):=by
      rw [show (x:Int)%18446744073709551616=x by omega,show (y:Int)%18446744073709551616=y by omega];push_cast;rfl
     have e2:((tC T x b i k:Nat)+((x:Int)%18446744073709551616*((y:Int)%18446744073709551616)%18446744073709551616+(o:Int)%18446744073709551616)%18446744073709551616)%18446744073709551616=((tC T x b i k+(x*y+o):Nat):Int):=by
      rw [e1];omega
     rw [e2]
     conv=>whnf
     refine qak (by omega) ?_
     conv=>whnf
     refine qak (by omega) ?_
     conv=>whnf
     refine ⟨k+1,by omega,by omega,qag ⟨⟨rfl,rfl,rfl,rfl,rfl⟩,⟨rfl,rfl,rfl,rfl, ?_⟩,trivial⟩ ⟨rfl,trivial,trivial,rfl,rfl, ?_,rfl,rfl,rfl,rfl,rfl,rfl,trivial⟩⟩
     ·rw [s2, <-dl_set _ (Nat.mod_lt _ (by omega)), <-qcS];rfl
     ·conv=>whnf
      rw [qof,s1]
    ·have hk2:k=(ln b).length:=by omega
     refine qak (by omega) ?_
     conv=>whnf
     have ei:(((i:Int)+((us (ln b)).length:Int)).toNat)=i+(ln b).length:=by omega
     refine qa0 (by omega) (qaq _) ?_
     conv=>whnf
     rw [ei]
     refine qaM (by omega) (qcI _) rfl ?_
     conv=>whnf
     refine qak (by omega) ?_
     conv=>whnf
     refine ⟨i+1,by omega,by omega,qag ⟨⟨rfl,rfl,rfl,rfl,rfl⟩,⟨rfl,rfl,rfl,rfl, ?_⟩,trivial⟩ ⟨rfl,trivial,trivial,rfl,rfl,rfl,trivial⟩⟩
     have:=t_end (a:=a) (i:=i) (qax b)
     simp only [hT,hX] at this
     subst hk2
     rw [<-this, <-dl_set _ hcl, <-qcS]
     congr 3
     omega
  ·have hi2:i=(ln a).length:=by omega
   refine qbn 1 (qa4 rfl rfl (trim_c (dl m (a%4294967296^i*b)) (lim_dl _ _) (by rw [dl_length];omega)) rfl ?_)
   conv=>whnf
   refine ⟨?_,trivial⟩
   conv=>whnf
   have hA:=qax a
   have hB:=qax b
   have:=Nat.mul_lt_mul'' hA hB
   rw [<-Nat.pow_add,hm] at this
   rw [lv_dl,hi2,Nat.mod_eq_of_lt hA,Nat.mod_eq_of_lt this]
def by8(l:List UInt8):List D:=l.map fun b=> .v (.int .u8 (b.toNat:Int))
theorem qcC(l:List UInt8):(by8 l).length=l.length:=by simp [by8]
theorem qcf(l:List UInt8):Uni 1 (by8 l):=by
 intro x hx
 simp only [by8,List.mem_map] at hx
 obtain ⟨n,_,rfl⟩:=hx
 rfl
theorem qf4(l:List UInt8):qgx (by8 l)=true:=by
 rw [qcM]
 intro x hx
 simp only [by8,List.mem_map] at hx
 obtain ⟨n,_,rfl⟩:=hx
 exact ⟨_,rfl⟩
theorem qlA(l:List UInt8):qf9 (by8 l)=⟨l.toArray⟩:=by
 unfold qf9 by8
 congr 2
 rw [List.map_map]
 conv=>rhs;rw [<-List.map_id l]
 refine List.map_congr_left fun b _=> ?_
 simp
theorem qlT(a b:List UInt8):by8 a++by8 b=by8 (a++b):=by simp [by8]
theorem qkK(l:List UInt8):bv (qf9 (by8 l))=bvl l:=by rw [qlA];rfl
attribute [irreducible] by8
theorem byte_of(n:Nat):((n:Int))%256=((UInt8.ofNat n).toNat:Int):=by simp
theorem qoJ(n k:Nat)(h:k<=32):Int.fdiv (n:Int) (2^min ((k:Int).toNat) IntKind.u32.bits)=((n/2^k:Nat):Int):=by
 rw [Int.toNat_natCast,show min k IntKind.u32.bits=k from Nat.min_eq_left h]
 rw [Int.fdiv_eq_ediv_of_nonneg _ (by exact Int.le_of_lt (Int.pow_pos (by omega)))]
 push_cast;rfl
theorem qF0(a b c d:Value):Uni 1 [D.v a,D.v b,D.v c,D.v d] :=by
 intro x hx;simp at hx;rcases hx with rfl|rfl|rfl|rfl<;>rfl
theorem qw5(a:Nat)(ha:(ln a).length<1000000000000):Fun Tryz.prog 178 [.l (us (ln a))] [.v (.string (nb a))] :=by
 have la:=qan (ln a)
 refine qad (fun t=>false) mixed tOk Tryz.func178 rfl rfl ?_
 conv=>whnf
 refine qak (by omega) ?_
 conv=>whnf
 refine qah (fun t=>false) (fun x:Nat×List UInt8=>⟨fr 41 [(0,.d (.l (us (ln a)))),(3,.own 0 0),(4,.d (i64 ((x.1:Int)-1)))], [.row 0 5 1 1 (by8 x.2)]⟩) (fun x=>x.1<=(ln a).length/\x.2.length+4*x.1=4*(ln a).length/\bvl x.2=a/4294967296^x.1) (fun x=>x.1) ((ln a).length, []) mixed tOk ⟨Nat.le_refl _,by simp, ?_⟩ ?_ ?_
 ·rw [Nat.div_eq_of_lt (qax a)];rfl
 ·refine qag ⟨⟨rfl,rfl,rfl,rfl, ?_⟩,trivial⟩ ⟨rfl,trivial, ?_,trivial⟩
  ·unfold by8;rfl
  ·conv=>whnf
   rw [la]
 ·rintro ⟨k,l⟩ ⟨hk,hl,hv⟩
  simp only at hk hl hv ⊢
  conv=>whnf
  have h8:=qcC l
  refine qaf (fun h2=> ?_) (fun h2=> ?_)<;>conv=>whnf
  ·obtain ⟨j,rfl⟩: ∃j,k=j+1:=⟨k-1,by omega⟩
   have e1:(((j+1:Nat):Int)-1).toNat=j:=by omega
   have i1:(us (ln a))[(((j+1:Nat):Int)-1).toNat]? =some (u32 ((a/4294967296^j%4294967296:Nat):Int)):=by rw [e1];exact qb9 (by omega)
   refine qae _ i1 (by omega) (qaq _) ?_
   conv=>whnf
   refine qak (by omega) ?_
   conv=>whnf
   refine qae _ i1 (by omega) (qaq _) ?_
   conv=>whnf
   refine qak (by omega) ?_
   conv=>whnf
   refine qae _ i1 (by omega) (qaq _) ?_
   conv=>whnf
   refine qak (by omega) ?_
   conv=>whnf
   refine qae _ i1 (by omega) (qaq _) ?_
   conv=>whnf
   refine qca (qcf _) (qF0 _ _ _ _) (by simp only [maxLen,List.length_cons,List.length_nil];omega) ?_
   conv=>whnf
   refine qac (by kernel_rfl) ?_
   conv=>whnf
   refine qak (by omega) ?_
   conv=>whnf
   generalize hx:a/4294967296^j%4294967296=x
   have hx2:x<4294967296:=by rw [<-hx];exact Nat.mod_lt _ (by omega)
   refine ⟨(j,l++ [UInt8.ofNat (x/2^24),UInt8.ofNat (x/2^16),UInt8.ofNat (x/2^8),UInt8.ofNat x]),⟨by simp only;omega,by simp only [List.length_append,List.length_cons,List.length_nil];omega, ?_⟩,by simp only;omega, ?_⟩
   ·simp only
    rw [show l++ [UInt8.ofNat (x/2^24),UInt8.ofNat (x/2^16),UInt8.ofNat (x/2^8),UInt8.ofNat x] =(((l++ [UInt8.ofNat (x/2^24)])++ [UInt8.ofNat (x/2^16)])++ [UInt8.ofNat (x/2^8)])++ [UInt8.ofNat x] by simp]
    rw [qb3,qb3,qb3,qb3,hv,qbj a j,hx]
    simp only [UInt8.toNat_ofNat']
    omega
   ·refine qag ⟨⟨rfl,rfl,rfl,rfl, ?_⟩,trivial⟩ ⟨rfl,trivial, ?_,trivial⟩
    ·rw [<-qlT]
     congr 1
     have a1:=qoJ x 24 (by omega)
     have a2:=qoJ x 16 (by omega)
     have a3:=qoJ x 8 (by omega)
     unfold by8
     simp only [List.map_cons,List.map_nil, <-byte_of]
     rw [<-a1, <-a2, <-a3];rfl
    ·conv=>whnf
     omega
  ·have hk0:k=0:=by omega
   subst hk0
   refine qaA (qf4 _) ?_
   conv=>whnf
   refine qaa rfl rfl (qpZ _) ?_
   conv=>whnf
   refine ⟨?_,trivial⟩
   conv=>whnf
   rw [qkK,hv];simp
@[irreducible] def ng(z:Int):Bool:=decide (z<0)
theorem qbo(z:Int):ng z=decide (z<0):=by unfold ng;rfl
abbrev intD(n:Bool)(s:ByteArray):D:= .a [.v (.bool n),.v (.string s)]
abbrev zD(z:Int):D:= .a [.v (.bool (ng z)),.v (.string (nb z.natAbs))]
def sg(n:Bool)(a:Nat):Int:=if n then-(a:Int) else a
theorem qCX(n:Bool)(s:ByteArray):iv n s=sg n (bv s):=rfl
theorem qdU(n:Bool)(a:Nat):(sg n a).natAbs=a:=by unfold sg;split<;>omega
theorem qc6{a:Nat}:(nb a==(⟨#[]⟩:ByteArray))=decide (a=0):=by
 rw [qbN,Bool.eq_iff_iff,decide_eq_true_eq,decide_eq_true_eq]
 exact qkj
theorem qw9(n:Bool)(a:Nat):ng (sg n a)=(n&& !(nb a==(⟨#[]⟩:ByteArray))):=by
 rw [qbo,qc6];unfold sg
 cases n<;>by_cases h:a=0<;>simp [h] <;>omega
theorem qtU(n:Bool)(l:List Nat)(hl:Lim l)(hz:l.length<1000000000000):Fun Tryz.prog 126 [.v (.bool n),.l (us l)] [zD (sg n (lv l))] :=by
 have hlen:(ln (lv l)).length<1000000000000:=by
  have:=qbC (qsV hl);omega
 refine qad (fun t=>false) mixed tOk Tryz.func126 rfl rfl ?_
 conv=>whnf
 refine qaa rfl rfl (trim_c l hl (by omega)) ?_
 conv=>whnf
 refine qaa rfl rfl (qw5 _ hlen) ?_
 refine qal (fun h=> ?_) (fun h=> ?_)<;>conv=>whnf
 ·refine ⟨⟨?_, ?_,trivial⟩,trivial⟩
  ·conv=>whnf
   rw [qw9,h,qaH];rfl
  ·conv=>whnf
   rw [qdU]
 ·refine ⟨⟨?_, ?_,trivial⟩,trivial⟩
  ·conv=>whnf
   rw [qw9,h];rfl
  ·conv=>whnf
   rw [qdU]
theorem qcR(n:Bool)(a:Nat)(ha:(ln a).length<1000000000000):Fun Tryz.prog 126 [.v (.bool n),.l (us (ln a))] [zD (sg n a)] :=by
 have:=qtU n (ln a) (qiO a) ha
 rwa [qoN] at this
theorem qtY(n:Int)(h: -9223372036854775808<=n/\n<=9223372036854775807):Fun Tryz.prog 123 [i64 n] [zD n] :=by
 refine qad (fun t=>false) mixed tOk Tryz.func123 rfl rfl ?_
 conv=>whnf
 have key: ∀(z:Bool) (x y:Int),z=decide (n<0)->x=((n.natAbs%4294967296:Nat):Int)->y=((n.natAbs/4294967296:Nat):Int)->Fun Tryz.prog 126 [.v (.bool z),.l [u32 x,u32 y]] [zD n] :=by
  rintro z x y rfl rfl rfl
  have:=qtU (decide (n<0)) [n.natAbs%4294967296,n.natAbs/4294967296] (by intro x hx;simp at hx;omega) (by simp)
  have e:sg (decide (n<0)) (lv [n.natAbs%4294967296,n.natAbs/4294967296])=n:=by
   simp only [lv,sg,decide_eq_true_eq];split<;>omega
  rw [e] at this
  unfold us at this
  exact this
 refine qaf (fun h2=> ?_) (fun h2=> ?_)<;>conv=>whnf
 ·refine qak (by omega) ?_
  conv=>whnf
  refine qaa rfl rfl (key _ _ _ (qaH _) ?_ ?_) ?_
  ·omega
  ·have:=qof n.natAbs
   have e:(0-n%18446744073709551616)%18446744073709551616=(n.natAbs:Int):=by omega
   show Int.fdiv ((0-n%18446744073709551616)%18446744073709551616) (2^min (Int.toNat 32) IntKind.u64.bits)%4294967296=_
   rw [e,this];omega
  ·conv=>whnf
   exact ⟨⟨rfl,rfl,trivial⟩,trivial⟩
 ·refine qak (by omega) ?_
  conv=>whnf
  refine qaa rfl rfl (key _ _ _ (qaH _) ?_ ?_) ?_
  ·omega
  ·have:=qof n.natAbs
   have e:n%18446744073709551616=(n.natAbs:Int):=by omega
   show Int.fdiv (n%18446744073709551616) (2^min (Int.toNat 32) IntKind.u64.bits)%4294967296=_
   rw [e,this];omega
  ·conv=>whnf
   exact ⟨⟨rfl,rfl,trivial⟩,trivial⟩
theorem qcE(s:ByteArray)(h:s.size<1000000000000):(ln (bv s)).length<=(s.size+3)/4:=qkO (qaV _)
theorem qyW(n:Bool)(s:ByteArray)(h:s.size<1000000000000):Fun Tryz.prog 241 [intD n s] [zD (-(sg n (bv s)))] :=by
 have hs:=qcE s h
 refine qad (fun t=>false) mixed tOk Tryz.func241 rfl rfl ?_
 conv=>whnf
 refine qab (qdv s h) ?_
 conv=>whnf
 refine qgM (qcR (!n) (bv s) (by omega)) (by simp only [qdQ];rfl) ?_
 conv=>whnf
 refine qac (by kernel_rfl) ?_
 conv=>whnf
 have e:sg (!n) (bv s)= -(sg n (bv s)):=by unfold sg;cases n<;>simp
 rw [e]
 exact ⟨⟨rfl,rfl,trivial⟩,trivial⟩
theorem qjQ(n m:Bool)(s t:ByteArray)(hs:s.size<500000000000)(ht:t.size<500000000000):Fun Tryz.prog 65 [intD n s,intD m t] [zD (sg n (bv s)*sg m (bv t))] :=by
 have h1:=qcE s (by omega)
 have h2:=qcE t (by omega)
 have h3:(ln (bv s*bv t)).length<=(ln (bv s)).length+(ln (bv t)).length:=qbC (by rw [Nat.pow_add];exact Nat.mul_lt_mul'' (qax _) (qax _))
 refine qad (fun t=>false) mixed tOk Tryz.func65 rfl rfl ?_
 conv=>whnf
 refine qab (qdv s (by omega)) ?_
 conv=>whnf
 refine qab (qdv t (by omega)) ?_
 conv=>whnf
 refine qab (qwf _ _ (by omega) (by omega)) ?_
 conv=>whnf
 refine qgM (qcR (n !=m) (bv s*bv t) (by omega)) (by simp only [qaH];rfl) ?_
 conv=>whnf
 refine qac (by kernel_rfl) ?_
 conv=>whnf
 have e:sg (n !=m) (bv s*bv t)=sg n (bv s)*sg m (bv t):=by unfold sg;cases n<;>cases m<;>simp<;>push_cast<;>grind
 rw [e]
 exact ⟨⟨rfl,rfl,trivial⟩,trivial⟩
theorem qqJ(a b:Nat)(h:b<256)(ha:a<2^54):IntKind.i64.wrap ((BitVec.ofInt 64 ((a:Int)*256)|||BitVec.ofInt 64 (b:Int)).toNat:Int)=((a*256+b:Nat):Int):=by
 have e1:(BitVec.ofInt 64 ((a:Int)*256)).toNat=a<<<8:=by
  have e:((a:Int)*256)=((a*256:Nat):Int):=by omega
  rw [e,BitVec.ofInt_natCast,BitVec.toNat_ofNat,Nat.mod_eq_of_lt (by omega),Nat.shiftLeft_eq]
 have e2:(BitVec.ofInt 64 (b:Int)).toNat=b:=by
  rw [BitVec.ofInt_natCast,BitVec.toNat_ofNat,Nat.mod_eq_of_lt (by omega)]
 have e3:=Nat.shiftLeft_add_eq_or_of_lt (show b<2^8 from h) a
 rw [BitVec.toNat_or,e1,e2, <-e3,Nat.shiftLeft_eq,qeA .i64 _ (by simp only [wrS];omega)]
 rfl
def pre(s:ByteArray)(i:Nat):Nat:=bvl (s.data.toList.take i)
theorem qer(s:ByteArray)(i:Nat)(h:i<s.size):bt s i=((s.data.toList[i]'(by simpa using h)).toNat:Int)/\pre s (i+1)=pre s i*256+(s.data.toList[i]'(by simpa using h)).toNat:=by
 have hl:i<s.data.toList.length:=by simpa using h
 constructor
 ·unfold bt
  rw [dif_pos (show ((i:Int)).toNat<s.size by simpa using h)]
  rfl
 ·unfold pre
  rw [List.take_succ_eq_append_getElem hl,qb3]
theorem qfs(s:ByteArray):pre s 0=0:=by simp [pre,bvl]
theorem qeY(s:ByteArray):pre s s.size=bv s:=by
 unfold pre bv
 rw [List.take_of_length_le (by simp)]
theorem qtK(s:ByteArray)(i:Nat)(h:i<=s.size):pre s i<256^i:=by
 have:=qaV (s.data.toList.take i)
 have e:(s.data.toList.take i).length=i:=by rw [List.length_take];exact Nat.min_eq_left (by simpa using h)
 rw [e] at this;exact this
theorem sh8(n:Nat):(n:Int)*2^min (Int.toNat 8) IntKind.i64.bits=(n:Int)*256:=by
 have:((2:Int)^min (Int.toNat 8) IntKind.i64.bits)=256:=by decide
 rw [this]
@[irreducible] def sml(s:ByteArray)(k:Nat):Bool:=decide (s.size<=k)
theorem qmU(s:ByteArray)(k:Nat):sml s k=decide (s.size<=k):=by unfold sml;rfl
theorem p54{s:ByteArray}{i:Nat}(h:i<s.size)(hs:s.size<=7):pre s i<2^54:=by
 have h1:=qtK s i (by omega)
 have h2:256^i<=256^6:=Nat.pow_le_pow_right (by omega) (by omega)
 have h3:(256:Nat)^6=281474976710656:=rfl
 omega
theorem qna(n:Bool)(s:ByteArray):Fun Tryz.prog 169 [intD n s] [i64 (if s.size<=7 then sg n (bv s) else 0),.v (.bool (sml s 7))] :=by
 refine qad (fun t=>false) mixed tOk Tryz.func169 rfl rfl ?_
 conv=>whnf
 refine qaf (fun h=> ?_) (fun h=> ?_)<;>conv=>whnf
 ·refine ⟨?_, ?_,trivial⟩
  ·conv=>whnf
   rw [if_neg (by omega)]
  ·conv=>whnf
   rw [qmU];simp;omega
 ·have hs:s.size<=7:=by omega
  refine qah (fun t=>false) (fun i:Nat=>⟨fr 30 [(0,.d (intD n s)),(1,.d (.p 0 [.v (.bool n),.v (.string s)])),(2,.d (i64 0)),(3,.d (.v (.bool false))),(4,.d (i64 (pre s i))),(12,.d (i64 s.size)),(13,.d (i64 i))], []⟩) (fun i=>i<=s.size) (fun i=>s.size-i) 0 mixed tOk (Nat.zero_le _) ?_ ?_
  ·refine qag trivial ⟨⟨rfl,rfl,trivial⟩,rfl,rfl,rfl, ?_,rfl,rfl,trivial⟩
   conv=>whnf
   rw [qfs];rfl
  ·intro i hi
   conv=>whnf
   refine qaf (fun h2=> ?_) (fun h2=> ?_)<;>conv=>whnf
   ·obtain ⟨p1,p2⟩:=qer s i (by omega)
    have hp:=p54 (s:=s) (i:=i) (by omega) hs
    have h8:=sh8 (pre s i)
    refine qcU (by omega) (by omega) ?_
    conv=>whnf
    refine qak (by omega) ?_
    conv=>whnf
    generalize s.data.toList[i]'_=b at p1 p2
    have hb:=b.toNat_lt
    refine qak (by rw [p1];omega) ?_
    conv=>whnf
    refine qak (by omega) ?_
    conv=>whnf
    refine ⟨i+1,by omega,by omega,qag trivial ⟨⟨rfl,rfl,trivial⟩,rfl,rfl,rfl, ?_,rfl,rfl,trivial⟩⟩
    conv=>whnf
    rw [p1,p2,h8]
    exact qqJ _ _ (by omega) hp
   ·have hi2:i=s.size:=by omega
    refine qal (fun h3=> ?_) (fun h3=> ?_)<;>conv=>whnf
    ·have hlt:pre s s.size<72057594037927936:=by
      have h1:=qtK s s.size (Nat.le_refl _)
      have h2:256^s.size<=256^7:=Nat.pow_le_pow_right (by omega) (by omega)
      have h3:(256:Nat)^7=72057594037927936:=rfl
      omega
     refine qak (by rw [hi2];omega) ?_
     conv=>whnf
     refine ⟨?_, ?_,trivial⟩
     ·conv=>whnf
      rw [if_pos hs,hi2,qeY,h3];simp [sg]
     ·conv=>whnf
      rw [qmU];simp [hs]
    ·refine ⟨?_, ?_,trivial⟩
     ·conv=>whnf
      rw [if_pos hs,hi2,qeY,h3];simp [sg]
     ·conv=>whnf
      rw [qmU];simp [hs]
theorem qgR{n:Bool}{s:ByteArray}(h:s.size<=7): -72057594037927936<sg n (bv s)/\sg n (bv s)<72057594037927936:=by
 have h1:bv s<256^s.size:=qaV _
 have h2:256^s.size<=256^7:=Nat.pow_le_pow_right (by omega) h
 have h3:(256:Nat)^7=72057594037927936:=rfl
 unfold sg;split<;>omega
theorem qu5(n m:Bool)(s t:ByteArray)(hs:s.size<500000000000)(ht:t.size<500000000000):Fun Tryz.prog 114 [intD n s,intD m t] [zD (sg n (bv s)+sg m (bv t))] :=by
 have h1:=qcE s (by omega)
 have h2:=qcE t (by omega)
 refine qad (fun t=>false) mixed tOk Tryz.func114 rfl rfl ?_
 conv=>whnf
 refine qaa rfl rfl (qna n s) ?_
 conv=>whnf
 refine qal (fun h3=> ?_) (fun h3=> ?_)
 ·conv=>whnf
  refine qaa rfl rfl (qna m t) ?_
  conv=>whnf
  refine qal (fun h4=> ?_) (fun h4=> ?_)
  ·conv=>whnf
   rw [qmU,decide_eq_true_eq] at h3 h4
   have b1:=qgR (n:=n) h3
   have b2:=qgR (n:=m) h4
   rw [if_pos h3,if_pos h4]
   refine qak (by omega) ?_
   conv=>whnf
   refine qaa rfl rfl (qtY _ (by omega)) ?_
   conv=>whnf
   exact ⟨⟨rfl,rfl,trivial⟩,trivial⟩
  ·conv=>whnf
   refine qab (qdv s (by omega)) ?_
   conv=>whnf
   refine qab (qdv t (by omega)) ?_
   conv=>whnf
   refine qac (by kernel_rfl) ?_
   conv=>whnf
   refine qby (fun h5=> ?_) (fun h5=> ?_)
   ·conv=>whnf
    refine qab (qtF _ _ (by omega) (by omega)) ?_
    conv=>whnf
    have hl:(ln (bv s+bv t)).length<1000000000000:=by
     have h7:=qax (bv s);have h8:=qax (bv t)
     have:=qbC (v:=bv s+bv t) (m:=(ln (bv s)).length+(ln (bv t)).length+1) (by
      have e1:=Nat.pow_le_pow_right (n:=4294967296) (by omega) (show (ln (bv s)).length<=(ln (bv s)).length+(ln (bv t)).length by omega)
      have e2:=Nat.pow_le_pow_right (n:=4294967296) (by omega) (show (ln (bv t)).length<=(ln (bv s)).length+(ln (bv t)).length by omega)
      rw [Nat.pow_succ];omega)
     omega
    refine qab (qcR n _ hl) ?_
    conv=>whnf
    refine qac (by kernel_rfl) ?_
    conv=>whnf
    have e:sg n (bv s+bv t)=sg n (bv s)+sg m (bv t):=by
     have:n=m:=by simpa using h5
     subst this;unfold sg;split<;>omega
    rw [e]
    exact ⟨⟨rfl,rfl,trivial⟩,trivial⟩
   ·conv=>whnf
    refine qaa rfl rfl (qbR _ _ (by omega) (by omega)) ?_
    conv=>whnf
    refine qaf (fun h6=> ?_) (fun h6=> ?_)
    ·conv=>whnf
     have hlt:bv s<bv t:=by unfold qcA at h6;split at h6<;>first|assumption|(split at h6<;>omega)
     refine qab (qjk _ _ (by omega) (by omega)) ?_
     conv=>whnf
     refine qab (qcR m _ (by have:=qa2 (show bv t-bv s<=bv t by omega);omega)) ?_
     conv=>whnf
     refine qac (by kernel_rfl) ?_
     conv=>whnf
     have e:sg m (bv t-bv s)=sg n (bv s)+sg m (bv t):=by
      unfold sg;cases n<;>cases m<;>simp at h5 ⊢ <;>omega
     rw [e]
     exact ⟨⟨rfl,rfl,trivial⟩,trivial⟩
    ·conv=>whnf
     have hge:bv t<=bv s:=by
      rcases Nat.lt_or_ge (bv s) (bv t) with h7|h7
      ·exact absurd (by unfold qcA;rw [if_pos h7];omega) h6
      ·exact h7
     refine qab (qjk _ _ (by omega) (by omega)) ?_
     conv=>whnf
     refine qab (qcR n _ (by have:=qa2 (show bv s-bv t<=bv s by omega);omega)) ?_
     conv=>whnf
     refine qac (by kernel_rfl) ?_
     conv=>whnf
     have e:sg n (bv s-bv t)=sg n (bv s)+sg m (bv t):=by
      unfold sg;cases n<;>cases m<;>simp at h5 ⊢ <;>omega
     rw [e]
     exact ⟨⟨rfl,rfl,trivial⟩,trivial⟩
 ·conv=>whnf
  refine qab (qdv s (by omega)) ?_
  conv=>whnf
  refine qab (qdv t (by omega)) ?_
  conv=>whnf
  refine qac (by kernel_rfl) ?_
  conv=>whnf
  refine qby (fun h5=> ?_) (fun h5=> ?_)
  ·conv=>whnf
   refine qab (qtF _ _ (by omega) (by omega)) ?_
   conv=>whnf
   have hl:(ln (bv s+bv t)).length<1000000000000:=by
    have h7:=qax (bv s);have h8:=qax (bv t)
    have:=qbC (v:=bv s+bv t) (m:=(ln (bv s)).length+(ln (bv t)).length+1) (by
     have e1:=Nat.pow_le_pow_right (n:=4294967296) (by omega) (show (ln (bv s)).length<=(ln (bv s)).length+(ln (bv t)).length by omega)
     have e2:=Nat.pow_le_pow_right (n:=4294967296) (by omega) (show (ln (bv t)).length<=(ln (bv s)).length+(ln (bv t)).length by omega)
     rw [Nat.pow_succ];omega)
    omega
   refine qab (qcR n _ hl) ?_
   conv=>whnf
   refine qac (by kernel_rfl) ?_
   conv=>whnf
   have e:sg n (bv s+bv t)=sg n (bv s)+sg m (bv t):=by
    have:n=m:=by simpa using h5
    subst this;unfold sg;split<;>omega
   rw [e]
   exact ⟨⟨rfl,rfl,trivial⟩,trivial⟩
  ·conv=>whnf
   refine qaa rfl rfl (qbR _ _ (by omega) (by omega)) ?_
   conv=>whnf
   refine qaf (fun h6=> ?_) (fun h6=> ?_)
   ·conv=>whnf
    have hlt:bv s<bv t:=by unfold qcA at h6;split at h6<;>first|assumption|(split at h6<;>omega)
    refine qab (qjk _ _ (by omega) (by omega)) ?_
    conv=>whnf
    refine qab (qcR m _ (by have:=qa2 (show bv t-bv s<=bv t by omega);omega)) ?_
    conv=>whnf
    refine qac (by kernel_rfl) ?_
    conv=>whnf
    have e:sg m (bv t-bv s)=sg n (bv s)+sg m (bv t):=by
     unfold sg;cases n<;>cases m<;>simp at h5 ⊢ <;>omega
    rw [e]
    exact ⟨⟨rfl,rfl,trivial⟩,trivial⟩
   ·conv=>whnf
    have hge:bv t<=bv s:=by
     rcases Nat.lt_or_ge (bv s) (bv t) with h7|h7
     ·exact absurd (by unfold qcA;rw [if_pos h7];omega) h6
     ·exact h7
    refine qab (qjk _ _ (by omega) (by omega)) ?_
    conv=>whnf
    refine qab (qcR n _ (by have:=qa2 (show bv s-bv t<=bv s by omega);omega)) ?_
    conv=>whnf
    refine qac (by kernel_rfl) ?_
    conv=>whnf
    have e:sg n (bv s-bv t)=sg n (bv s)+sg m (bv t):=by
     unfold sg;cases n<;>cases m<;>simp at h5 ⊢ <;>omega
    rw [e]
    exact ⟨⟨rfl,rfl,trivial⟩,trivial⟩
theorem qEo(n m:Bool)(s t:ByteArray)(hs:s.size<500000000000)(ht:t.size<500000000000):Fun Tryz.prog 181 [intD n s,intD m t] [zD (sg n (bv s)-sg m (bv t))] :=by
 refine qad (fun t=>t==3) mixed tOk Tryz.func181 rfl rfl ?_
 conv=>whnf
 refine qa4 rfl rfl (qu5 n (!m) s t hs ht) (by simp only [qdQ];rfl) ?_
 conv=>whnf
 have e:sg n (bv s)+sg (!m) (bv t)=sg n (bv s)-sg m (bv t):=by unfold sg;cases m<;>simp<;>omega
 rw [e]
 exact ⟨⟨rfl,rfl,trivial⟩,trivial⟩
def qgB(a b:Int):Int:=if a<b then-1 else if b<a then 1 else 0
theorem qfM(n m:Bool)(a b:Nat)(x y:Bool)(hx:x=(n&&decide (a≠0)))(hy:y=(m&&decide (b≠0))):
  qgB (sg n a) (sg m b)=if x then (if y then qcA b a else-1) else if y then 1 else qcA a b:=by
 subst hx hy
 unfold qgB qcA sg
 cases n<;>cases m<;>by_cases h1:a=0<;>by_cases h2:b=0<;>simp [h1,h2] <;>(repeat' split)<;>omega
theorem qeq(n m:Bool)(s t:ByteArray)(hs:s.size<1000000000000)(ht:t.size<1000000000000):Fun Tryz.prog 68 [intD n s,intD m t] [i64 (qgB (sg n (bv s)) (sg m (bv t)))] :=by
 have h1:=qcE s hs
 have h2:=qcE t ht
 have l1:=qan (ln (bv s))
 have l2:=qan (ln (bv t))
 have z1:=qbP (a:=bv s)
 have z2:=qbP (a:=bv t)
 refine qad (fun t=>t==2||t==3) mixed tOk Tryz.func68 rfl rfl ?_
 conv=>whnf
 refine qab (qdv s hs) ?_
 conv=>whnf
 refine qab (qdv t ht) ?_
 conv=>whnf
 refine qac (by kernel_rfl) ?_
 conv=>whnf
 generalize bv s=p at*
 generalize bv t=q at*
 refine qal (fun hn=> ?_) (fun hn=> ?_)
 ·conv=>whnf
  refine qal (fun hm=> ?_) (fun hm=> ?_)
  ·conv=>whnf
   refine qaf (fun ha=> ?_) (fun ha=> ?_)
   ·conv=>whnf
    refine qaf (fun hb=> ?_) (fun hb=> ?_)
    ·conv=>whnf
     refine qaa rfl rfl (qbR q p (by omega) (by omega)) ?_
     conv=>whnf
     refine ⟨?_,trivial⟩
     conv=>whnf
     have hc:=qfM n m p q true true (by simp [*];try omega) (by simp [*];try omega)
     rw [hc];simp
    ·conv=>whnf
     refine qaI ha ?_
     conv=>whnf
     refine ⟨?_,trivial⟩
     conv=>whnf
     have hc:=qfM n m p q true false (by simp [*];try omega) (by simp [*];try omega)
     rw [hc];simp
   ·conv=>whnf
    refine qaU ha ?_
    conv=>whnf
    refine qaf (fun hb=> ?_) (fun hb=> ?_)<;>conv=>whnf
    ·refine ⟨?_,trivial⟩
     conv=>whnf
     have hc:=qfM n m p q false true (by simp [*];try omega) (by simp [*];try omega)
     rw [hc];simp
    ·refine qaa rfl rfl (qbR p q (by omega) (by omega)) ?_
     conv=>whnf
     refine ⟨?_,trivial⟩
     conv=>whnf
     have hc:=qfM n m p q false false (by simp [*];try omega) (by simp [*];try omega)
     rw [hc];simp
  ·conv=>whnf
   refine qaf (fun ha=> ?_) (fun ha=> ?_)
   ·conv=>whnf
    refine qaI ha ?_
    conv=>whnf
    refine ⟨?_,trivial⟩
    conv=>whnf
    have hc:=qfM n m p q true false (by simp [*];try omega) (by simp [*];try omega)
    rw [hc];simp
   ·conv=>whnf
    refine qaU ha ?_
    conv=>whnf
    refine qaa rfl rfl (qbR p q (by omega) (by omega)) ?_
    conv=>whnf
    refine ⟨?_,trivial⟩
    conv=>whnf
    have hc:=qfM n m p q false false (by simp [*];try omega) (by simp [*];try omega)
    rw [hc];simp
 ·conv=>whnf
  refine qal (fun hm=> ?_) (fun hm=> ?_)
  ·conv=>whnf
   refine qaf (fun hb=> ?_) (fun hb=> ?_)<;>conv=>whnf
   ·refine ⟨?_,trivial⟩
    conv=>whnf
    have hc:=qfM n m p q false true (by simp [*];try omega) (by simp [*];try omega)
    rw [hc];simp
   ·refine qaa rfl rfl (qbR p q (by omega) (by omega)) ?_
    conv=>whnf
    refine ⟨?_,trivial⟩
    conv=>whnf
    have hc:=qfM n m p q false false (by simp [*];try omega) (by simp [*];try omega)
    rw [hc];simp
  ·conv=>whnf
   refine qaa rfl rfl (qbR p q (by omega) (by omega)) ?_
   conv=>whnf
   refine ⟨?_,trivial⟩
   conv=>whnf
   have hc:=qfM n m p q false false (by simp [*];try omega) (by simp [*];try omega)
   rw [hc];simp
end Go.Nv
end
