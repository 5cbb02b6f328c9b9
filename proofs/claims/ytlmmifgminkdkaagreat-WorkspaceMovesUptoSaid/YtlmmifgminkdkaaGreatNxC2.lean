import Derived.Test.YtlmmifgminkdkaaGreatNxC1
import Derived.Test.YtlmmifgminkdkaaGreatNxP1
import Derived.Test.YtlmmifgminkdkaaGreatNxN5
set_option linter.all false
set_option maxRecDepth 100000
section
namespace Go.Nv
open Go.Proofs Nw
theorem qxC(a d:Nat)(h0:0<d)(hd:d<4294967296)(ha:(ln a).length<1000000000000):Fun Tryz.prog 245 [.l (us (ln a)),u32 d] [.l (us (ln (a/d))),u32 ((a%d:Nat):Int)] :=by
 have la:=qan (ln a)
 refine qad (fun t=>false) mixed tOk Tryz.func245 rfl rfl ?_
 conv=>whnf
 refine qak (by simp only [maxLen];omega) ?_
 conv=>whnf
 refine qak (by omega) ?_
 conv=>whnf
 refine qah (fun t=>false) (fun k:Nat=>⟨fr 35 [(0,.d (.l (us (ln a)))),(1,.d (u32 d)),(4,.own 0 0),(5,.d (u32 0)),(6,.own 1 0),(7,.d (u32 ((a/4294967296^k%d:Nat):Int))),(8,.d (i64 ((k:Int)-1)))], [.row 0 192 1 4 [],.row 0 192 1 4 (us (dl (ln a).length (a/4294967296^k/d*4294967296^k)))]⟩) (fun k=>k<=(ln a).length) (fun k=>k) (ln a).length mixed tOk (Nat.le_refl _) ?_ ?_
 ·refine qag ⟨⟨rfl,rfl,rfl,rfl,rfl⟩,⟨rfl,rfl,rfl,rfl, ?_⟩,trivial⟩ ⟨rfl,rfl,trivial,rfl,trivial, ?_, ?_,trivial⟩
  ·rw [la,qh1,Nat.div_eq_of_lt (qax a),Nat.zero_div,Nat.zero_mul,dl_zero];rfl
  ·conv=>whnf
   rw [Nat.div_eq_of_lt (qax a)];simp
  ·conv=>whnf
   rw [la]
 ·intro k hk
  conv=>whnf
  have hrl:=qan (dl (ln a).length (a/4294967296^k/d*4294967296^k))
  rw [dl_length] at hrl
  refine qaf (fun h2=> ?_) (fun h2=> ?_)<;>conv=>whnf
  ·obtain ⟨j,rfl⟩: ∃j,k=j+1:=⟨k-1,by omega⟩
   have e1:(((j+1:Nat):Int)-1).toNat=j:=by omega
   have hm:=Nat.mod_lt (a/4294967296^(j+1)) h0
   have hx:a/4294967296^j%4294967296<4294967296:=Nat.mod_lt _ (by omega)
   obtain ⟨s1,s2⟩:=qoy a d j h0
   refine qae _ (by rw [e1];exact qb9 (show j<(ln a).length by omega)) (by omega) (qaq _) ?_
   conv=>whnf
   refine qaa rfl rfl (qw0 ((a/4294967296^(j+1)%d:Nat):Int) ((a/4294967296^j%4294967296:Nat):Int) d (by omega) (by omega) (by omega)) ?_
   conv=>whnf
   refine qa0 (by omega) (qaq _) ?_
   conv=>whnf
   rw [e1]
   refine qaM (by omega) (qcI _) rfl ?_
   conv=>whnf
   refine qak (by omega) ?_
   conv=>whnf
   have q1:((a/4294967296^(j+1)%d:Nat):Int)*4294967296+((a/4294967296^j%4294967296:Nat):Int)=((a/4294967296^(j+1)%d*4294967296+a/4294967296^j%4294967296:Nat):Int):=by omega
   have hq:(a/4294967296^(j+1)%d*4294967296+a/4294967296^j%4294967296)/d<4294967296:=by
    rw [Nat.div_lt_iff_lt_mul h0]
    have:=Nat.mul_le_mul_right 4294967296 (show a/4294967296^(j+1)%d+1<=d by omega)
    rw [Nat.mul_comm d] at this
    omega
   refine ⟨j,by omega,by omega,qag ⟨⟨rfl,rfl,rfl,rfl,rfl⟩,⟨rfl,rfl,rfl,rfl, ?_⟩,trivial⟩ ⟨rfl,rfl,trivial,rfl,trivial, ?_, ?_,trivial⟩⟩
   ·rw [q1,s2, <-qt4 hq, <-qcS];rfl
   ·conv=>whnf
    rw [q1, <-s1];rfl
   ·conv=>whnf
    omega
  ·have hk0:k=0:=by omega
   subst hk0
   refine qbn 1 (qa4 rfl rfl (trim_c (dl (ln a).length (a/4294967296^0/d*4294967296^0)) (lim_dl _ _) (by rw [dl_length];omega)) rfl ?_)
   conv=>whnf
   have hA:=qax a
   have hdv:=Nat.div_le_self a d
   refine ⟨?_, ?_,trivial⟩
   ·conv=>whnf
    rw [lv_dl];simp only [Nat.pow_zero,Nat.div_one,Nat.mul_one];rw [Nat.mod_eq_of_lt (by omega)]
   ·conv=>whnf
    simp
theorem qDA(x n:Nat)(hn:n<=31)(hx:x<4294967296):((x:Int)%18446744073709551616*2^min ((n:Int).toNat) IntKind.u64.bits)%18446744073709551616=((x*2^n:Nat):Int):=by
 rw [Int.toNat_natCast,show min n IntKind.u64.bits=n from Nat.min_eq_left (show n<=64 by omega)]
 have h2:2^n<=2^31:=Nat.pow_le_pow_right (by omega) hn
 have h3:x*2^n<=4294967295*2^31:=Nat.mul_le_mul (by omega) h2
 have e:(x:Int)%18446744073709551616*2^n=((x*2^n:Nat):Int):=by
  rw [show (x:Int)%18446744073709551616=x by omega];push_cast;rfl
 rw [e];omega
theorem qpW(a n:Nat)(hn:n<=31)(ha:(ln a).length<1000000000000):qpM Tryz.prog 247 [.l (us (ln a)),i64 n] 192 1 (us (dl ((ln a).length+1) (a*2^n))):=by
 have la:=qan (ln a)
 refine qiz (fun t=>false) mixed tOk Tryz.func247 rfl rfl ?_
 conv=>whnf
 refine qak (by omega) ?_
 conv=>whnf
 refine qak (by simp only [maxLen];omega) ?_
 conv=>whnf
 refine qah (fun t=>false) (fun i:Nat=>⟨fr 41 [(1,.d (i64 n)),(4,.own 0 0),(5,.own 1 0),(13,.d (.l (us (ln a)))),(14,.d (i64 (us (ln a)).length)),(15,.d (i64 i))], [.row 0 192 1 4 [],.row 0 192 1 4 (us (dl ((ln a).length+1) ((a%4294967296^i)*2^n)))]⟩) (fun i=>i<=(ln a).length) (fun i=>(ln a).length-i) 0 mixed tOk (Nat.zero_le _) ?_ ?_
 ·refine qag ?_ ?_<;>repeat' (first|exact trivial|exact rfl|apply And.intro)
  rw [la,qh1,Nat.pow_zero,Nat.mod_one,Nat.zero_mul,dl_zero];rfl
 ·intro i hi
  conv=>whnf
  have hrl:=qan (dl ((ln a).length+1) ((a%4294967296^i)*2^n))
  rw [dl_length] at hrl
  refine qaf (fun h2=> ?_) (fun h2=> ?_)<;>conv=>whnf
  ·obtain ⟨q1,q2,q3,q4,q5,q6⟩:=qoO (a:=a) (n:=n) (i:=i) (m:=(ln a).length+1) hn (by omega)
   have hx:a/4294967296^i%4294967296<4294967296:=Nat.mod_lt _ (by omega)
   refine qae _ (qb9 (a:=a) (i:=i) (by omega)) (by omega) (qaq _) ?_
   conv=>whnf
   refine qak (by omega) ?_
   conv=>whnf
   rw [qDA _ _ hn hx]
   refine qa0 (by omega) (qaq _) ?_
   conv=>whnf
   refine qbb (i:=i) (r:=0) _ _ (qeJ q2) (by omega) (by omega) (qaq _) rfl ?_
   conv=>whnf
   refine qa0 (by omega) (qaq _) ?_
   conv=>whnf
   rw [Int.toNat_natCast]
   have e1:(((a/4294967296^i%4294967296)*2^n:Nat):Int)%4294967296=(((a/4294967296^i%4294967296)%2^(32-n)*2^n:Nat):Int):=by rw [<-q3];omega
   have e2:=qET q1 q4
   rw [e1]
   refine qaM (by omega) (qcI _) rfl ?_
   have e3:IntKind.u32.wrap (BitVec.toNat (BitVec.ofInt IntKind.u32.bits (((a%4294967296^i)*2^n/4294967296^i:Nat):Int)|||BitVec.ofInt IntKind.u32.bits (((a/4294967296^i%4294967296)%2^(32-n)*2^n:Nat):Int)))=(((a%4294967296^i)*2^n/4294967296^i+(a/4294967296^i%4294967296)%2^(32-n)*2^n:Nat):Int):=e2
   rw [e3,qcS]
   conv=>whnf
   refine qak (by omega) ?_
   conv=>whnf
   refine qak (by omega) ?_
   conv=>whnf
   refine qa0 (by simp only [qan,List.length_set,dl_length];omega) (qaq _) ?_
   conv=>whnf
   rw [show ((i:Int)+1).toNat=i+1 by omega]
   refine qaM (by simp only [qan,List.length_set,dl_length];omega) (qcI _) rfl ?_
   have e4:=qof ((a/4294967296^i%4294967296)*2^n)
   rw [e4]
   conv=>whnf
   refine qak (by omega) ?_
   conv=>whnf
   refine ⟨i+1,by omega,by omega, ?_⟩
   refine qag ?_ ?_<;>repeat' (first|exact trivial|exact rfl|apply And.intro)
   have e5:(((a/4294967296^i%4294967296)*2^n/4294967296:Nat):Int)%4294967296=(((a/4294967296^i%4294967296)*2^n/4294967296:Nat):Int):=by
    clear q6 e1 e2 e3 e4 q2 q3
    generalize (a/4294967296^i%4294967296)*2^n/4294967296=z at q5
    omega
   rw [e5,qcS,q6]
  ·have hi2:i=(ln a).length:=by omega
   refine ⟨rfl,rfl,rfl, ?_⟩
   rw [hi2,Nat.mod_eq_of_lt (qax a)]
theorem qD7{a b:Nat}(ha:a<4294967296)(hb:b<4294967296):IntKind.u64.wrap ((BitVec.ofInt 64 (a:Int)|||BitVec.ofInt 64 ((b:Int)*4294967296)).toNat:Int)=((a+b*4294967296:Nat):Int):=by
 have:=qCd (h:=b) (l:=a) (by omega) (by omega)
 rw [BitVec.toNat_or,Nat.or_comm, <-BitVec.toNat_or,this];omega
theorem qyq(y n:Nat)(hn:n<=31):Int.fdiv (y:Int) (2^min ((n:Int).toNat) IntKind.u64.bits)=((y/2^n:Nat):Int):=by
 rw [Int.toNat_natCast,show min n IntKind.u64.bits=n from Nat.min_eq_left (show n<=64 by omega)]
 rw [Int.fdiv_eq_ediv_of_nonneg _ (by exact Int.le_of_lt (Int.pow_pos (by omega)))]
 push_cast;rfl
theorem qqh(r n:Nat)(hn:n<=31)(hr:(ln r).length<1000000000000):Fun Tryz.prog 249 [.l (us (ln r)),i64 n] [.l (us (ln (r/2^n)))] :=by
 have la:=qan (ln r)
 refine qad (fun t=>false) mixed tOk Tryz.func249 rfl rfl ?_
 conv=>whnf
 refine qak (by simp only [maxLen];omega) ?_
 conv=>whnf
 refine qah (fun t=>false) (fun i:Nat=>⟨fr 45 [(0,.d (.l (us (ln r)))),(1,.d (i64 n)),(4,.own 0 0),(5,.own 1 0),(12,.d (i64 (us (ln r)).length)),(13,.d (i64 i))], [.row 0 192 1 4 [],.row 0 192 1 4 (us (dl (ln r).length ((r/2^n)%4294967296^i)))]⟩) (fun i=>i<=(ln r).length) (fun i=>(ln r).length-i) 0 mixed tOk (Nat.zero_le _) ?_ ?_
 ·refine qag ?_ ?_<;>repeat' (first|exact trivial|exact rfl|apply And.intro)
  rw [la,qh1,Nat.pow_zero,Nat.mod_one,dl_zero];rfl
 ·intro i hi
  conv=>whnf
  have hrl:=qan (dl (ln r).length ((r/2^n)%4294967296^i))
  rw [dl_length] at hrl
  refine qaf (fun h2=> ?_) (fun h2=> ?_)<;>conv=>whnf
  ·have hx:r/4294967296^i%4294967296<4294967296:=Nat.mod_lt _ (by omega)
   have hx':r/4294967296^(i+1)%4294967296<4294967296:=Nat.mod_lt _ (by omega)
   have hdig:=qv9 r n i hn
   refine qae _ (qb9 (a:=r) (i:=i) (by omega)) (by omega) (qaq _) ?_
   conv=>whnf
   refine qak (by omega) ?_
   conv=>whnf
   refine qaf (fun h3=> ?_) (fun h3=> ?_)<;>conv=>whnf
   ·refine qak (by omega) ?_
    conv=>whnf
    refine qae _ (by rw [show ((i:Int)+1).toNat=i+1 by omega];exact qb9 (show i+1<(ln r).length by omega)) (by omega) (qaq _) ?_
    conv=>whnf
    refine qak (by omega) ?_
    conv=>whnf
    have hy:IntKind.u64.wrap (BitVec.toNat (BitVec.ofInt IntKind.u64.bits (((r/4294967296^i%4294967296:Nat):Int)%18446744073709551616)|||BitVec.ofInt IntKind.u64.bits (((r/4294967296^(i+1)%4294967296:Nat):Int)%18446744073709551616*2^min (Int.toNat 32) IntKind.u64.bits%18446744073709551616)))=((r/4294967296^i%4294967296+r/4294967296^(i+1)%4294967296*4294967296:Nat):Int):=by
     have e:((2:Int)^min (Int.toNat 32) IntKind.u64.bits)=4294967296:=by decide
     rw [e,show ((r/4294967296^i%4294967296:Nat):Int)%18446744073709551616=((r/4294967296^i%4294967296:Nat):Int) by omega,show ((r/4294967296^(i+1)%4294967296:Nat):Int)%18446744073709551616*4294967296%18446744073709551616=((r/4294967296^(i+1)%4294967296:Nat):Int)*4294967296 by omega]
     exact qD7 hx hx'
    refine qak (by omega) ?_
    conv=>whnf
    refine qa0 (by omega) (qaq _) ?_
    conv=>whnf
    rw [hy,qyq _ _ hn,Int.toNat_natCast]
    refine qaM (by omega) (qcI _) rfl ?_
    conv=>whnf
    refine qak (by omega) ?_
    conv=>whnf
    refine ⟨i+1,by omega,by omega, ?_⟩
    refine qag ?_ ?_<;>repeat' (first|exact trivial|exact rfl|apply And.intro)
    rw [<-dl_mod_set (m:=(ln r).length) _ (by omega),hdig, <-qcS]
    congr 3
   ·have hz:r/4294967296^(i+1)=0:=qcg (by omega)
    have hy:((r/4294967296^i%4294967296:Nat):Int)%18446744073709551616=((r/4294967296^i%4294967296+r/4294967296^(i+1)%4294967296*4294967296:Nat):Int):=by rw [hz];omega
    refine qak (by omega) ?_
    conv=>whnf
    refine qa0 (by omega) (qaq _) ?_
    conv=>whnf
    rw [hy,qyq _ _ hn,Int.toNat_natCast]
    refine qaM (by omega) (qcI _) rfl ?_
    conv=>whnf
    refine qak (by omega) ?_
    conv=>whnf
    refine ⟨i+1,by omega,by omega, ?_⟩
    refine qag ?_ ?_<;>repeat' (first|exact trivial|exact rfl|apply And.intro)
    rw [<-dl_mod_set (m:=(ln r).length) _ (by omega),hdig, <-qcS]
    congr 3
  ·have hi2:i=(ln r).length:=by omega
   refine qbn 1 (qa4 rfl rfl (trim_c (dl (ln r).length ((r/2^n)%4294967296^i)) (lim_dl _ _) (by rw [dl_length];omega)) rfl ?_)
   conv=>whnf
   refine ⟨?_,trivial⟩
   conv=>whnf
   have hA:=qax r
   have hdv:=Nat.div_le_self r (2^n)
   rw [lv_dl,hi2,Nat.mod_mod,Nat.mod_eq_of_lt (by omega)]
def qiw(x:Nat):Nat:=if x=0 then 0 else Nat.log2 x+1
theorem qjh{s:ByteArray}(h:((List.range 256).all fun i=>bt s (i:Int)==(qiw i:Int))=true)(hs:s.size=256){i:Nat}(hi:i<256):bt s (i:Int)=(qiw i:Int):=by
 have:=List.all_eq_true.1 h i (by simpa using hi)
 simpa using this
theorem qjI(x k:Nat)(h:2^k<=x):qiw (x/2^k)+k=qiw x:=by
 have hx:x≠0:=by have:0<2^k:=Nat.pow_pos (by omega);omega
 have h2:x/2^k≠0:=by have:=Nat.div_pos h (Nat.pow_pos (by omega));omega
 unfold qiw
 rw [if_neg hx,if_neg h2]
 have e:(x/2^k).log2+k=x.log2:=by
  have h3:=Nat.log2_self_le h2
  have h4:x/2^k<2^((x/2^k).log2+1):=Nat.lt_log2_self
  have h5:2^((x/2^k).log2+k)<=x:=by
   rw [Nat.pow_add]
   exact Nat.le_trans (Nat.mul_le_mul_right _ h3) (Nat.div_mul_le_self _ _)
  have h6:x<2^((x/2^k).log2+k+1):=by
   rw [Nat.div_lt_iff_lt_mul (Nat.pow_pos (by omega)), <-Nat.pow_add] at h4
   rwa [show (x/2^k).log2+k+1=(x/2^k).log2+1+k by omega]
  have h7:=(Nat.le_log2 hx).2 h5
  have h8:=(Nat.log2_lt hx).2 h6
  omega
 omega
theorem qfZ{x k:Nat}(h:x<2^k):qiw x<=k:=by
 unfold qiw
 split
 ·omega
 ·rename_i hx;have:=(Nat.log2_lt hx).2 h;omega
theorem qr2{x:Nat}(h:x≠0):2^(qiw x-1)<=x/\x<2^qiw x:=by
 unfold qiw
 rw [if_neg h]
 exact ⟨by simpa using Nat.log2_self_le h,Nat.lt_log2_self⟩
theorem qv5(x:Nat)(hx:x<4294967296):Fun Tryz.prog 327 [u32 x] [i64 (qiw x)] :=by
 refine qad (fun t=>false) mixed tOk Tryz.func327 rfl rfl ?_
 conv=>whnf
 refine qaf (fun h=> ?_) (fun h=> ?_)
 ·conv=>whnf
  refine qak (by omega) ?_
  conv=>whnf
  have e:=qoJ x 16 (by omega)
  have hb:=qjI x 16 (by omega)
  have e':Int.fdiv (x:Int) (2^min (Int.toNat 16) IntKind.u32.bits)=((x/2^16:Nat):Int):=e
  rw [e']
  generalize hy:x/2^16=y at hb ⊢
  have hy2:y<65536:=by omega
  refine qaf (fun h=> ?_) (fun h=> ?_)
  ·conv=>whnf
   refine qak (by omega) ?_
   conv=>whnf
   have e:=qoJ y 8 (by omega)
   have hb2:=qjI y 8 (by omega)
   have e':Int.fdiv (y:Int) (2^min (Int.toNat 8) IntKind.u32.bits)=((y/2^8:Nat):Int):=e
   rw [e']
   generalize hz:y/2^8=z at hb2 ⊢
   refine qak (by omega) ?_
   conv=>whnf
   have hX:z<256:=by omega
   have hl:=qfZ (x:=z) (k:=8) hX
   have e8:(z:Int)%256=z:=by omega
   refine qak (by rw [e8];refine ⟨by omega, ?_⟩;show _<((256:Nat):Int);omega) ?_
   conv=>whnf
   rw [e8,qjh (i:=z) (by kernel_rfl) rfl hX]
   refine qak (by omega) ?_
   conv=>whnf
   refine qak (by omega) ?_
   conv=>whnf
   refine ⟨?_,trivial⟩
   conv=>whnf
   omega
  ·conv=>whnf
   have hX:y<256:=by omega
   have hl:=qfZ (x:=y) (k:=8) hX
   have e8:(y:Int)%256=y:=by omega
   refine qak (by rw [e8];refine ⟨by omega, ?_⟩;show _<((256:Nat):Int);omega) ?_
   conv=>whnf
   rw [e8,qjh (i:=y) (by kernel_rfl) rfl hX]
   refine qak (by omega) ?_
   conv=>whnf
   refine qak (by omega) ?_
   conv=>whnf
   refine ⟨?_,trivial⟩
   conv=>whnf
   omega
 ·conv=>whnf
  refine qaf (fun h=> ?_) (fun h=> ?_)
  ·conv=>whnf
   refine qak (by omega) ?_
   conv=>whnf
   have e:=qoJ x 8 (by omega)
   have hb2:=qjI x 8 (by omega)
   have e':Int.fdiv (x:Int) (2^min (Int.toNat 8) IntKind.u32.bits)=((x/2^8:Nat):Int):=e
   rw [e']
   generalize hz:x/2^8=z at hb2 ⊢
   refine qak (by omega) ?_
   conv=>whnf
   have hX:z<256:=by omega
   have hl:=qfZ (x:=z) (k:=8) hX
   have e8:(z:Int)%256=z:=by omega
   refine qak (by rw [e8];refine ⟨by omega, ?_⟩;show _<((256:Nat):Int);omega) ?_
   conv=>whnf
   rw [e8,qjh (i:=z) (by kernel_rfl) rfl hX]
   refine qak (by omega) ?_
   conv=>whnf
   refine qak (by omega) ?_
   conv=>whnf
   refine ⟨?_,trivial⟩
   conv=>whnf
   omega
  ·conv=>whnf
   have hX:x<256:=by omega
   have hl:=qfZ (x:=x) (k:=8) hX
   have e8:(x:Int)%256=x:=by omega
   refine qak (by rw [e8];refine ⟨by omega, ?_⟩;show _<((256:Nat):Int);omega) ?_
   conv=>whnf
   rw [e8,qjh (i:=x) (by kernel_rfl) rfl hX]
   refine qak (by omega) ?_
   conv=>whnf
   refine qak (by omega) ?_
   conv=>whnf
   refine ⟨?_,trivial⟩
   conv=>whnf
   omega
theorem qzG(x:Nat)(hx:x<4294967296):Fun Tryz.prog 246 [u32 x] [i64 ((32-qiw x:Nat):Int)] :=by
 have hl:=qfZ (x:=x) (k:=32) hx
 refine qad (fun t=>false) mixed tOk Tryz.func246 rfl rfl ?_
 conv=>whnf
 refine qaa rfl rfl (qv5 x hx) ?_
 conv=>whnf
 refine qak (by omega) ?_
 conv=>whnf
 refine ⟨?_,trivial⟩
 conv=>whnf
 omega
end Go.Nv
end
section
namespace Go.Nv
open Go.Proofs Nw
theorem qai(b:B):qrG b b:=by
 have hS: ∀s,quy s s:=by
  intro s
  have hD: ∀n d,qq4 n d d:=by
   intro n
   induction n with
   |zero=>intro d;rfl
   |succ n ih=>
    have hl: ∀l,quf (qq4 n) l l:=by intro l;induction l with
     |nil=>trivial
     |cons x xs ihx=>exact ⟨ih x,ihx⟩
    intro d
    cases d with
    |v x=>
     show qxH x x
     cases x<;>simp [qxH]
    |a cs=>exact hl cs
    |_=>simp [qq4]
  cases s with
  |d x=>exact hD 4 x
  |own k v=>simp [quy]
  |ptr k v o=>simp [quy]
  |_=>simp [quy]
 have hL: ∀l,qrG.go l l:=by intro l;induction l with
  |nil=>trivial
  |cons x xs ih=>exact ⟨hS x,ih⟩
 cases b with
 |row=>exact ⟨rfl,rfl,rfl,rfl,rfl⟩
 |box t cs=>exact ⟨rfl,hL cs⟩
 |_=>simp [qrG]
theorem qzQ{h l:Nat}(hh:h<4294967296)(hl:l<4294967296):IntKind.u64.wrap (BitVec.toNat (BitVec.ofInt IntKind.u64.bits ((h:Int)%18446744073709551616*2^min (Int.toNat 32) IntKind.u64.bits%18446744073709551616)|||BitVec.ofInt IntKind.u64.bits ((l:Int)%18446744073709551616)))=((h*4294967296+l:Nat):Int):=by
 have e:((2:Int)^min (Int.toNat 32) IntKind.u64.bits)=4294967296:=by decide
 rw [e,show (h:Int)%18446744073709551616*4294967296%18446744073709551616=h*4294967296 from by omega,show (l:Int)%18446744073709551616=l from by omega]
 have:=qCd (h:=h) (l:=l) (by omega) (by omega)
 exact this.trans (by omega)
theorem qAi{r l:Nat}(hh:r<4294967296)(hl:l<4294967296):IntKind.u64.wrap (BitVec.toNat (BitVec.ofInt IntKind.u64.bits ((r:Int)*2^min (Int.toNat 32) IntKind.u64.bits%18446744073709551616)|||BitVec.ofInt IntKind.u64.bits ((l:Int)%18446744073709551616)))=((r*4294967296+l:Nat):Int):=by
 have:=qzQ hh hl
 rwa [show (r:Int)%18446744073709551616=r by omega] at this
structure Dg (m R V i k s:Nat):Prop where
 hk:2<=k
 hm:i+k<m
 hms:m<4000000000000
 hV:V<4294967296^k
 hn:2147483648*4294967296^(k-1)<=V
 hlen:(ln V).length=k
 hs:R/4294967296^i=s
 hR:s<V*4294967296
section
variable {m R V i k s:Nat} (h:Dg m R V i k s)
include h
theorem Dg.ru:(us (dl m R)).length=m:=by rw [qan,dl_length]
theorem Dg.lv:(us (ln V)).length=k:=by rw [qan,h.hlen]
theorem Dg.U(j p:Nat)(hp:p=i+j)(hj:j<=k):(us (dl m R))[p]? =some (u32 ((s/4294967296^j%4294967296:Nat):Int)):=by
 subst hp
 have:=h.hm
 rw [<-h.hs,Nat.div_div_eq_div_mul, <-Nat.pow_add]
 exact qeJ (dl_get R (by omega))
theorem Dg.W(j p:Nat)(hp:p=j)(hj:j<k):(us (ln V))[p]? =some (u32 ((V/4294967296^j%4294967296:Nat):Int)):=by
 subst hp
 have:=h.hlen
 exact qb9 (by omega)
theorem Dg.st:2147483648<=V/4294967296^(k-1)/\V/4294967296^(k-1)<4294967296/\s/V<4294967296/\s/4294967296^(k-1)<(s/V+1)*(V/4294967296^(k-1)+1)/\s/V*(V/4294967296^(k-1))<=s/4294967296^(k-1)/\s/4294967296^(k-1)<18446744073709551616:=qr7 h.hV (by have:=h.hk;omega) h.hn h.hR
theorem Dg.v1:V/4294967296^(k-1)%4294967296=V/4294967296^(k-1):=Nat.mod_eq_of_lt h.st.2.1
theorem Dg.top:s/4294967296^k%4294967296*4294967296+s/4294967296^(k-1)%4294967296=s/4294967296^(k-1):=by
 have hk:=h.hk
 have h1:=qbj s (k-1)
 rw [show k-1+1=k by omega] at h1
 have h2:s/4294967296^k<4294967296:=by
  rw [Nat.div_lt_iff_lt_mul (qbY k),Nat.mul_comm]
  exact Nat.lt_of_lt_of_le h.hR (Nat.mul_le_mul_right _ (Nat.le_of_lt h.hV))
 omega
end
theorem mlt(n:Nat):n%4294967296<4294967296:=Nat.mod_lt _ (by omega)
def dg1(b0 b1 b3 b4 b5:B)(m R V i k:Nat)(g r:Nat):St:=⟨fr 194 [(0,.own 2 0),(1,.d (.l (us (ln V)))),(2,.d (i64 i)),(7,.d (i64 k)),(9,.d (u64 g)),(10,.d (u64 r))], [b0,b1,.row 0 192 1 4 (us (dl m R)),b3,b4,b5]⟩
def dg2(b0 b1 b3 b4 b5:B)(m R V i k:Nat)(g:Nat):St:=⟨fr 194 [(0,.own 2 0),(1,.d (.l (us (ln V)))),(2,.d (i64 i)),(7,.d (i64 k)),(9,.d (u64 g))], [b0,b1,.row 0 192 1 4 (us (dl m R)),b3,b4,b5]⟩
theorem qx1(b0 b1 b3 b4 b5:B){m R V i k s:Nat}(h:Dg m R V i k s){c:Code}(hc:Tryz.f248.body=some c)(K:Ex->St->Prop):
  goL Tryz.prog tbl (fun t=>false) ((fl c).take 4) ⟨fr 194 [(0,.own 2 0),(1,.d (.l (us (ln V)))),(2,.d (i64 i))], [b0,b1,.row 0 192 1 4 (us (dl m R)),b3,b4,b5]⟩
   (lpX (fun st'=> ∃p:Nat×Nat,(p.1*(V/4294967296^(k-1))+p.2=s/4294967296^(k-1)/\s/V<=p.1)/\qc4 st' (dg1 b0 b1 b3 b4 b5 m R V i k p.1 p.2)) K):=by
 have hru:=h.ru
 have lv:=h.lv
 have hk:=h.hk
 have hm:=h.hm
 have hms:=h.hms
 obtain ⟨g1,g2,g3,g4,g5,g6⟩:=h.st
 cases hc
 conv=>whnf
 refine qak (by omega) ?_
 conv=>whnf
 refine qa0 (by omega) (qaq _) ?_
 conv=>whnf
 refine qbb (i:=i+k) (r:=0) _ _ (h.U k _ rfl (by omega)) (by omega) (by omega) (qaq _) rfl ?_
 conv=>whnf
 refine qak (by omega) ?_
 conv=>whnf
 refine qak (by omega) ?_
 conv=>whnf
 refine qak (by omega) ?_
 conv=>whnf
 refine qa0 (by omega) (qaq _) ?_
 conv=>whnf
 refine qbb (i:=i+(k-1)) (r:=0) _ _ (h.U (k-1) _ rfl (by omega)) (by omega) (by omega) (qaq _) rfl ?_
 conv=>whnf
 rw [qzQ (mlt _) (mlt _),h.top]
 refine qac (by kernel_rfl) ?_
 conv=>whnf
 refine qak (by omega) ?_
 conv=>whnf
 refine qae _ (h.W (k-1) _ (by omega) (by omega)) (by omega) (qaq _) ?_
 conv=>whnf
 rw [h.v1]
 refine qak (by omega) ?_
 conv=>whnf
 refine qak (by omega) ?_
 conv=>whnf
 refine qae _ (h.W (k-1) _ (by omega) (by omega)) (by omega) (qaq _) ?_
 conv=>whnf
 rw [h.v1]
 refine qak (by omega) ?_
 conv=>whnf
 refine qac (by kernel_rfl) ?_
 conv=>whnf
 generalize hX:V/4294967296^(k-1)=x at*
 generalize hT:s/4294967296^(k-1)=top at*
 have e1:((top:Int):Int).tdiv ((x:Int)%18446744073709551616)=((top/x:Nat):Int):=by
  rw [show (x:Int)%18446744073709551616=x by omega,Int.tdiv_eq_ediv_of_nonneg (by omega)];rfl
 have e2:((top:Int):Int).tmod ((x:Int)%18446744073709551616)=((top%x:Nat):Int):=by
  rw [show (x:Int)%18446744073709551616=x by omega,Int.tmod_eq_emod_of_nonneg (by omega)];rfl
 have d1:=Nat.div_le_self top x
 have d2:=Nat.mod_le top x
 refine ⟨(top/x,top%x),⟨?_, ?_⟩, ?_⟩
 ·rw [Nat.mul_comm];exact Nat.div_add_mod top x
 ·show s/V<=top/x
  rw [Nat.le_div_iff_mul_le (by omega)];exact g5
 ·refine qa7 ⟨qai _,qai _,⟨rfl,rfl,rfl,rfl,rfl⟩,qai _,qai _,qai _,trivial⟩ ⟨trivial,rfl,rfl, ?_, ?_, ?_,trivial⟩
  ·conv=>whnf
   omega
  ·conv=>whnf
   rw [e1];clear e1 e2;generalize top/x=y at*;exact Int.emod_eq_of_lt (by omega) (by omega)
  ·conv=>whnf
   rw [e2]
end Go.Nv
end
section
namespace Go.Nv
open Go.Proofs Nw
def qFA(b0 b1 b3 b4 b5:B)(m R V i k:Nat)(g r:Nat)(b:Bool):St:=⟨fr 194 [(0,.own 2 0),(1,.d (.l (us (ln V)))),(2,.d (i64 i)),(7,.d (i64 k)),(9,.d (u64 g)),(10,.d (u64 r)),(82,.d (.v (.bool b)))], [b0,b1,.row 0 192 1 4 (us (dl m R)),b3,b4,b5]⟩
theorem qAV(b0 b1 b3 b4 b5:B){m R V i k s:Nat}(h:Dg m R V i k s){c:Code}(hc:Tryz.f248.body=some c)(K:Ex->St->Prop)(p0:Nat×Nat)(hp0:p0.1*(V/4294967296^(k-1))+p0.2=s/4294967296^(k-1)/\s/V<=p0.1):
  goL Tryz.prog tbl (fun t=>false) (((fl c).drop 4).take 1) (dg1 b0 b1 b3 b4 b5 m R V i k p0.1 p0.2)
   (lpX (fun st'=> ∃g:Nat,(s/V<=g/\g<=s/V+1/\g<4294967296)/\qc4 st' (dg2 b0 b1 b3 b4 b5 m R V i k g)) K):=by
 have hru:=h.ru
 have lv:=h.lv
 have hk:=h.hk
 have hm:=h.hm
 have hms:=h.hms
 have hn:=h.hn
 obtain ⟨g1,g2,g3,g4,g5,g6⟩:=h.st
 have hV0:0<V:=by
  rcases Nat.eq_zero_or_pos V with h|h
  ·rw [h] at g1;simp at g1
  ·exact h
 have hgs:=fun g r he hc=>qxe (S:=s) (V:=V) (k:=k) (g:=g) (r:=r) hk hV0 g3 he hc
 have hge:=fun g r he hg hc=>qzM (S:=s) (V:=V) (k:=k) (g:=g) (r:=r) hk hn he hg hc
 have hW1:=h.W (k-1)
 have hW2:=h.W (k-2)
 have hU2:=h.U (k-2)
 rw [h.v1] at hW1
 clear hn
 generalize hX:V/4294967296^(k-1)=x at*
 generalize hT:s/4294967296^(k-1)=top at*
 generalize hQ:s/V=q at*
 generalize hY:V/4294967296^(k-2)%4294967296=y at*
 generalize hZ:s/4294967296^(k-2)%4294967296=z at*
 have hy:y<4294967296:=by rw [<-hY];exact Nat.mod_lt _ (by omega)
 have hz:z<4294967296:=by rw [<-hZ];exact Nat.mod_lt _ (by omega)
 have hr: ∀g r:Nat,g*x+r=top->q<=g->r<8589934592:=by
  intro g r he hg
  have h1:=Nat.mul_le_mul_right x hg
  have h2:(q+1)*(x+1)=q*x+q+x+1:=by grind
  omega
 cases hc
 conv=>whnf
 refine qrB (fun p=>dg1 b0 b1 b3 b4 b5 m R V i k p.1 p.2) (fun p=>p.1*x+p.2=top/\q<=p.1) (fun p=>p.1) p0 hp0 (qc4.refl _) ?_
 rintro ⟨g,r⟩ ⟨he,hg⟩
 replace he:g*x+r=top:=he
 replace hg:q<=g:=hg
 have hrr:=hr g r he hg
 have hgt:g<=top:=by have:=Nat.le_mul_of_pos_right g (show 0<x by omega);omega
 refine qpH 1 (fun t=>false) (qFA b0 b1 b3 b4 b5 m R V i k g r) (fun b:Bool=>(b=true->(4294967296<=g\/r*4294967296+z<g*y))/\(b=false->g<=q+1/\g<4294967296)) mixed tOk (by decide) ?_ ?_
 ·show goL _ _ _ _ (dg1 b0 b1 b3 b4 b5 m R V i k g r) _
  conv=>whnf
  refine qak (by omega) ?_
  conv=>whnf
  have sg1:=qof g
  have sr1:=qof r
  refine qaf (fun h1=> ?_) (fun h1=> ?_)
  ·conv=>whnf
   refine qac (by kernel_rfl) ?_
   conv=>whnf
   have hcc:4294967296<=g\/r*4294967296+z<g*y:= .inl (by omega)
   refine ⟨true,⟨fun _=>hcc,nofun⟩, ?_⟩
   exact qa7 ⟨qai _,qai _,⟨rfl,rfl,rfl,rfl,rfl⟩,qai _,qai _,qai _,trivial⟩ ⟨trivial,rfl,rfl,rfl,rfl,rfl,rfl,trivial⟩
  ·conv=>whnf
   refine qak (by omega) ?_
   conv=>whnf
   have hg32:g<4294967296:=by omega
   refine qa9 (fun h2=> ?_) (fun h2=> ?_)
   ·conv=>whnf
    have hr32:r<4294967296:=by omega
    refine qak (by omega) ?_
    conv=>whnf
    refine qae _ (hW2 _ (by omega) (by omega)) (by omega) (qaq _) ?_
    conv=>whnf
    refine qak (by omega) ?_
    conv=>whnf
    refine qak (by omega) ?_
    conv=>whnf
    refine qak (by omega) ?_
    conv=>whnf
    refine qa0 (by omega) (qaq _) ?_
    conv=>whnf
    refine qbb (i:=i+(k-2)) (r:=0) _ _ (hU2 _ rfl (by omega)) (by omega) (by omega) (qaq _) rfl ?_
    conv=>whnf
    rw [qAi hr32 hz]
    have hgy:=Nat.mul_le_mul (show g<=4294967295 by omega) (show y<=4294967295 by omega)
    have e3:(g:Int)*((y:Int)%18446744073709551616)%18446744073709551616=((g*y:Nat):Int):=by
     rw [show (y:Int)%18446744073709551616=y by omega]
     have:(g:Int)*(y:Int)=((g*y:Nat):Int):=by push_cast;rfl
     rw [this];omega
    rw [e3]
    refine qac (by kernel_rfl) ?_
    conv=>whnf
    refine ⟨bz (decide (((g*y:Nat):Int)>((r*4294967296+z:Nat):Int))),⟨fun hb=> ?_,fun hb=> ?_⟩, ?_⟩
    ·rw [qaH] at hb
     have:=of_decide_eq_true hb
     exact .inr (by omega)
    ·rw [qaH] at hb
     have:=of_decide_eq_false hb
     exact ⟨hge g r he hg32 (.inr (by omega)),hg32⟩
    ·exact qa7 ⟨qai _,qai _,⟨rfl,rfl,rfl,rfl,rfl⟩,qai _,qai _,qai _,trivial⟩ ⟨trivial,rfl,rfl,rfl,rfl,rfl,rfl,trivial⟩
   ·conv=>whnf
    refine qac (by kernel_rfl) ?_
    conv=>whnf
    refine ⟨false,⟨nofun,fun _=>⟨hge g r he hg32 (.inl (by omega)),hg32⟩⟩, ?_⟩
    exact qa7 ⟨qai _,qai _,⟨rfl,rfl,rfl,rfl,rfl⟩,qai _,qai _,qai _,trivial⟩ ⟨trivial,rfl,rfl,rfl,rfl,rfl,rfl,trivial⟩
 ·rintro b ⟨hbt,hbf⟩
  refine qit mixed tOk (mu:=fun t=>false) ?_
  cases b with
  |false=>
   conv=>whnf
   exact ⟨g,⟨hg,(hbf rfl).1,(hbf rfl).2⟩,qa7 ⟨qai _,qai _,⟨rfl,rfl,rfl,rfl,rfl⟩,qai _,qai _,qai _,trivial⟩ ⟨trivial,rfl,rfl,rfl,rfl,trivial⟩⟩
  |true=>
   have hqg:q<g:=hgs g r he (hbt rfl)
   conv=>whnf
   refine qak (by omega) ?_
   conv=>whnf
   refine qae _ (hW1 _ (by omega) (by omega)) (by omega) (qaq _) ?_
   conv=>whnf
   refine qak (by omega) ?_
   conv=>whnf
   have e1:((g:Int)-1)%18446744073709551616=((g-1:Nat):Int):=by omega
   have e2:((r:Int)+(x:Int)%18446744073709551616)%18446744073709551616=((r+x:Nat):Int):=by omega
   rw [e1,e2]
   have he':(g-1)*x+(r+x)=top:=by
    have:g*x=(g-1)*x+x:=by
     conv=>lhs;rw [show g=g-1+1 by omega]
     rw [Nat.add_mul,Nat.one_mul]
    omega
   have sg2:=qof (g-1)
   have sr2:=qof (r+x)
   refine qaf (fun h5=> ?_) (fun h5=> ?_)
   ·conv=>whnf
    refine qak (by omega) ?_
    conv=>whnf
    refine qa9 (fun h6=> ?_) (fun h6=> ?_)<;>conv=>whnf
    ·refine ⟨g-1,⟨by omega, ?_,by omega⟩, ?_⟩
     ·exact hge (g-1) (r+x) he' (by omega) (.inl (by omega))
     ·exact qa7 ⟨qai _,qai _,⟨rfl,rfl,rfl,rfl,rfl⟩,qai _,qai _,qai _,trivial⟩ ⟨trivial,rfl,rfl,rfl,rfl,trivial⟩
    ·refine ⟨(g-1,r+x),⟨he',by simp only;omega⟩,by simp only;omega, ?_⟩
     exact qa7 ⟨qai _,qai _,⟨rfl,rfl,rfl,rfl,rfl⟩,qai _,qai _,qai _,trivial⟩ ⟨trivial,rfl,rfl,rfl,rfl,rfl,trivial⟩
   ·conv=>whnf
    refine ⟨(g-1,r+x),⟨he',by simp only;omega⟩,by simp only;omega, ?_⟩
    exact qa7 ⟨qai _,qai _,⟨rfl,rfl,rfl,rfl,rfl⟩,qai _,qai _,qai _,trivial⟩ ⟨trivial,rfl,rfl,rfl,rfl,rfl,trivial⟩
def dD(s k g V:Nat):Nat:=s+4294967296^(k+1)-g*V
def dg3(b0 b1 b3 b4 b5:B)(m R V i k s g j:Nat):St:=⟨fr 194 [(0,.own 2 0),(1,.d (.l (us (ln V)))),(2,.d (i64 i)),(7,.d (i64 k)),(9,.d (u64 g)),(11,.d (u64 (qln g V j))),(12,.d (u32 (bor (s+4294967296^(k+1)) (g*V) j))),(101,.d (.l (us (ln V)))),(102,.d (i64 k)),(103,.d (i64 j))], [b0,b1,.row 0 192 1 4 (us (dl m (mix R (dD s k g V) i j))),b3,b4,b5]⟩
theorem qx7(b0 b1 b3 b4 b5:B){m R V i k s g:Nat}(h:Dg m R V i k s)(hg:g<4294967296){c:Code}(hc:Tryz.f248.body=some c)(K:Ex->St->Prop):
  goL Tryz.prog tbl (fun t=>false) (((fl c).drop 5).take 3) (dg2 b0 b1 b3 b4 b5 m R V i k g)
   (lpX (fun st'=> ∃j:Nat,j=k/\qc4 st' (dg3 b0 b1 b3 b4 b5 m R V i k s g j)) K):=by
 have lv:=h.lv
 have hk:=h.hk
 have hm:=h.hm
 have hms:=h.hms
 have hP:g*V<=s+4294967296^(k+1):=by
  have h1:g*V<=4294967296*4294967296^k:=Nat.mul_le_mul (by omega) (Nat.le_of_lt h.hV)
  rw [Nat.pow_succ,Nat.mul_comm (4294967296^k)]
  omega
 cases hc
 conv=>whnf
 refine qah (fun t=>false) (dg3 b0 b1 b3 b4 b5 m R V i k s g) (fun j=>j<=k) (fun j=>k-j) 0 mixed tOk (Nat.zero_le _) ?_ ?_
 ·refine qa7 ⟨qai _,qai _,⟨rfl,rfl,rfl,rfl, ?_⟩,qai _,qai _,qai _,trivial⟩ ⟨trivial,rfl,rfl, ?_, ?_, ?_, ?_,rfl, ?_,rfl,trivial⟩
  ·rw [qmt]
  ·conv=>whnf
  ·conv=>whnf
  ·conv=>whnf
   rw [qp2]
   rfl
  ·conv=>whnf
   rw [qiX]
   rfl
  ·conv=>whnf
   rw [h.lv]
 ·intro j hj
  have hru:(us (dl m (mix R (dD s k g V) i j))).length=m:=by rw [qan,dl_length]
  conv=>whnf
  have hv:=mlt (V/4294967296^j)
  have hu:=mlt (s/4294967296^j)
  have hl:=qvE (V:=V) (j:=j) hg
  have hlow:=qsi g V j
  have hhigh:=qqG g V j
  have hy:=mlt (g*V/4294967296^j)
  have hbo:=bor_le (s+4294967296^(k+1)) (g*V) j
  have hd:=sub_dig (s+4294967296^(k+1)) (g*V) j hP
  have hs:=bor_step (s+4294967296^(k+1)) (g*V) j
  have hU:(us (dl m (mix R (dD s k g V) i j)))[i+j]? =some (u32 ((s/4294967296^j%4294967296:Nat):Int)):=by
   have:=qeJ (dl_get (m:=m) (mix R (dD s k g V) i j) (i:=i+j) (by omega))
   rwa [qi2,Nat.pow_add, <-Nat.div_div_eq_div_mul,h.hs] at this
  rw [qnF hj] at hd hs
  generalize hmu:qln g V j=mu at*
  refine qaf (fun h2=> ?_) (fun h2=> ?_)
  ·conv=>whnf
   refine qae _ (h.W j _ (by omega) (by omega)) (by omega) (qaq _) ?_
   conv=>whnf
   have hgv:((g:Int)*((((V/4294967296^j%4294967296:Nat):Int))%18446744073709551616))=((g*(V/4294967296^j%4294967296):Nat):Int):=by
    rw [show (((V/4294967296^j%4294967296:Nat):Int))%18446744073709551616=((V/4294967296^j%4294967296:Nat):Int) by omega]
    exact (Int.natCast_mul g _).symm
   have hacc:((mu:Int)+(g:Int)*((((V/4294967296^j%4294967296:Nat):Int))%18446744073709551616)%18446744073709551616)%18446744073709551616=((mu+g*(V/4294967296^j%4294967296):Nat):Int):=by
    rw [hgv]
    clear hlow hhigh hgv
    generalize g*(V/4294967296^j%4294967296)=w at*
    omega
   rw [hacc]
   refine qak (by omega) ?_
   conv=>whnf
   refine qak (by omega) ?_
   conv=>whnf
   refine qa0 (by omega) (qaq _) ?_
   conv=>whnf
   refine qbb (i:=i+j) (r:=0) _ _ hU (by omega) (by omega) (qaq _) rfl ?_
   conv=>whnf
   refine qa4 rfl rfl (qi1 ((s/4294967296^j%4294967296:Nat):Int) ((g*V/4294967296^j%4294967296:Nat):Int) (bor (s+4294967296^(k+1)) (g*V) j:Nat) (by omega) (by omega) (by omega)) ?_ ?_
   ·conv=>whnf
    have ha:(((mu+g*(V/4294967296^j%4294967296):Nat):Int))%4294967296=((g*V/4294967296^j%4294967296:Nat):Int):=by
     rw [<-hlow]
     generalize mu+g*(V/4294967296^j%4294967296)=w at*
     omega
    rw [ha]
    rfl
   conv=>whnf
   refine qa0 (by omega) (qaq _) ?_
   conv=>whnf
   rw [show ((i:Int)+(j:Int)).toNat=i+j by omega,hd]
   refine qaM (by omega) (qcI _) rfl ?_
   conv=>whnf
   have sh:=qof (mu+g*(V/4294967296^j%4294967296))
   rw [hhigh] at sh
   refine qak (by omega) ?_
   conv=>whnf
   refine qak (by omega) ?_
   conv=>whnf
   refine ⟨j+1,by omega,by omega, ?_⟩
   refine qa7 ⟨qai _,qai _,⟨rfl,rfl,rfl,rfl, ?_⟩,qai _,qai _,qai _,trivial⟩ ⟨trivial,rfl,rfl,rfl,rfl, ?_, ?_,rfl,rfl,rfl,trivial⟩
   ·rw [<-qjv,qcS]
    rfl
   ·conv=>whnf
    rw [sh]
   ·conv=>whnf
    rw [hs]
    split<;>split<;>first|rfl|omega
  ·conv=>whnf
   refine ⟨j,by omega, ?_⟩
   exact qa7 ⟨qai _,qai _,⟨rfl,rfl,rfl,rfl,rfl⟩,qai _,qai _,qai _,trivial⟩ ⟨trivial,rfl,rfl,rfl,rfl,by rw [hmu];rfl,rfl,rfl,rfl,rfl,trivial⟩
def dg4(b0 b1 b3 b4 b5:B)(m R V i k s g:Nat)(_:Unit):St:=⟨fr 194 [(0,.own 2 0),(1,.d (.l (us (ln V)))),(2,.d (i64 i)),(7,.d (i64 k)),(9,.d (u64 g)),(12,.d (u32 (bor (s+4294967296^(k+1)) (g*V) (k+1))))], [b0,b1,.row 0 192 1 4 (us (dl m (mix R (dD s k g V) i (k+1)))),b3,b4,b5]⟩
theorem qAH(b0 b1 b3 b4 b5:B){m R V i k s g:Nat}(h:Dg m R V i k s)(hg:g<4294967296){c:Code}(hc:Tryz.f248.body=some c)(K:Ex->St->Prop):
  goL Tryz.prog tbl (fun t=>false) (((fl c).drop 8).take 1) (dg3 b0 b1 b3 b4 b5 m R V i k s g k)
   (lpX (fun st'=> ∃u:Unit,True/\qc4 st' (dg4 b0 b1 b3 b4 b5 m R V i k s g u)) K):=by
 have lv:=h.lv
 have hk:=h.hk
 have hm:=h.hm
 have hms:=h.hms
 have hP:g*V<=s+4294967296^(k+1):=Nat.le_of_lt (Nat.lt_of_lt_of_le (qA3 hg h.hV) (Nat.le_add_left _ _))
 have hru:(us (dl m (mix R (dD s k g V) i k))).length=m:=by rw [qan,dl_length]
 have hu:=mlt (s/4294967296^k)
 have hmu:qln g V k=g*V/4294967296^k%4294967296:=by
  have:=qqK g V k
  rw [<-qsG h.hV]
  omega
 have hy:=mlt (g*V/4294967296^k)
 have hbo:=bor_le (s+4294967296^(k+1)) (g*V) k
 have hd:=sub_dig (s+4294967296^(k+1)) (g*V) k hP
 have hs:=bor_step (s+4294967296^(k+1)) (g*V) k
 have hU:(us (dl m (mix R (dD s k g V) i k)))[i+k]? =some (u32 ((s/4294967296^k%4294967296:Nat):Int)):=by
  have:=qeJ (dl_get (m:=m) (mix R (dD s k g V) i k) (i:=i+k) (by omega))
  rwa [qi2,Nat.pow_add, <-Nat.div_div_eq_div_mul,h.hs] at this
 rw [qnF (Nat.le_refl k)] at hd hs
 cases hc
 conv=>whnf
 refine qak (by omega) ?_
 conv=>whnf
 refine qak (by omega) ?_
 conv=>whnf
 refine qa0 (by omega) (qaq _) ?_
 conv=>whnf
 refine qbb (i:=i+k) (r:=0) _ _ hU (by omega) (by omega) (qaq _) rfl ?_
 conv=>whnf
 rw [hmu]
 refine qa4 rfl rfl (qi1 ((s/4294967296^k%4294967296:Nat):Int) ((g*V/4294967296^k%4294967296:Nat):Int) (bor (s+4294967296^(k+1)) (g*V) k:Nat) (by omega) (by omega) (by omega)) ?_ ?_
 ·conv=>whnf
  have ha:((g*V/4294967296^k%4294967296:Nat):Int)%4294967296=((g*V/4294967296^k%4294967296:Nat):Int):=by omega
  rw [ha]
  rfl
 conv=>whnf
 refine qa0 (by omega) (qaq _) ?_
 conv=>whnf
 rw [show ((i:Int)+(k:Int)).toNat=i+k by omega,hd]
 refine qaM (by omega) (qcI _) rfl ?_
 conv=>whnf
 refine ⟨(),trivial, ?_⟩
 refine qa7 ⟨qai _,qai _,⟨rfl,rfl,rfl,rfl, ?_⟩,qai _,qai _,qai _,trivial⟩ ⟨trivial,rfl,rfl,rfl,rfl, ?_,trivial⟩
 ·rw [<-qjv,qcS]
  rfl
 ·conv=>whnf
  rw [hs]
  split<;>split<;>first|rfl|omega
def qzO(b0 b1 b3 b4 b5:B)(m R V i k s g:Nat)(b:Bool):St:=⟨fr 194 [(0,.own 2 0),(1,.d (.l (us (ln V)))),(2,.d (i64 i)),(7,.d (i64 k)),(9,.d (u64 g)),(154,.d (.v (.bool b)))], [b0,b1,.row 0 192 1 4 (us (dl m (mix R (dD s k g V) i (k+1)))),b3,b4,b5]⟩
theorem qvb(b0 b1 b3 b4 b5:B){m R V i k s g:Nat}{c:Code}(hc:Tryz.f248.body=some c)(K:Ex->St->Prop):
  goL Tryz.prog tbl (fun t=>false) (((fl c).drop 9).take 1) (dg4 b0 b1 b3 b4 b5 m R V i k s g ())
   (lpX (fun st'=> ∃b:Bool,(b=true↔bor (s+4294967296^(k+1)) (g*V) (k+1)=0)/\qc4 st' (qzO b0 b1 b3 b4 b5 m R V i k s g b)) K):=by
 unfold dg4 qzO
 generalize bor (s+4294967296^(k+1)) (g*V) (k+1)=bo
 generalize mix R (dD s k g V) i (k+1)=Rw
 cases hc
 conv=>whnf
 refine ⟨bz ((bo:Int)==0), ?_, ?_⟩
 ·rw [qaH]
  simp
 ·exact qa7 ⟨qai _,qai _,⟨rfl,rfl,rfl,rfl,rfl⟩,qai _,qai _,qai _,trivial⟩ ⟨trivial,rfl,rfl,rfl,rfl,rfl,trivial⟩
def dg6(b0 b1 b3 b4 b5:B)(m R V i k g D:Nat)(_:Unit):St:=⟨fr 194 [(0,.own 2 0),(1,.d (.l (us (ln V)))),(2,.d (i64 i)),(7,.d (i64 k)),(9,.d (u64 g))], [b0,b1,.row 0 192 1 4 (us (dl m (R%4294967296^i+D*4294967296^i))),b3,b4,b5]⟩
theorem qwY(b0 b1 b3 b4 b5:B){m R V i k s g:Nat}{b:Bool}(h:Dg m R V i k s)(hg:g<4294967296)(hgl:s/V<=g)(hgu:g<=s/V+1)(hbb:b=true↔bor (s+4294967296^(k+1)) (g*V) (k+1)=0){c:Code}(hc:Tryz.f248.body=some c)(K:Ex->St->Prop)
  (hK: ∀env,lk env 6= .d (u32 (s/V:Nat))->K .ret ⟨env, [b0,b1,.row 0 192 1 4 (us (dl m (R%4294967296^i+s%V*4294967296^i))),b3,b4,b5]⟩):
  goL Tryz.prog tbl (fun t=>false) (((fl c).drop 10).take 1) (qzO b0 b1 b3 b4 b5 m R V i k s g b)
   (lpX (fun st'=> ∃u:Unit,(g=s/V+1/\dD s k g V<4294967296^(k+1)/\(dD s k g V+V)%4294967296^(k+1)=s%V)/\qc4 st' (dg6 b0 b1 b3 b4 b5 m R V i k g (dD s k g V) u)) K):=by
 have lv:=h.lv
 have hk:=h.hk
 have hm:=h.hm
 have hms:=h.hms
 have hV0:0<V:=by
  rcases Nat.eq_zero_or_pos V with h0|h0
  ·have:=h.hR;rw [h0] at this;omega
  ·exact h0
 have hsB:s<4294967296^(k+1):=by
  rw [Nat.pow_succ]
  exact Nat.lt_trans h.hR (Nat.mul_lt_mul_of_pos_right h.hV (by omega))
 have hRB:R<4294967296^(i+(k+1)):=by
  have h1:=h.hs
  rw [Nat.pow_add,Nat.mul_comm]
  exact (Nat.div_lt_iff_lt_mul (qbY i)).1 (by omega)
 have hb:=qu6 hsB (qA3 hg h.hV)
 have hrow:=qqL (D:=dD s k g V) hRB
 rw [hb] at hbb
 have hD:dD s k g V=s+4294967296^(k+1)-g*V:=rfl
 unfold qzO
 rw [hrow]
 cases b with
 |true=>
  have hlt: ¬s<g*V:=by
   intro hlt
   rw [if_pos hlt] at hbb
   simp at hbb
  obtain ⟨r1,r2⟩:=qBQ hV0 h.hV hgl hlt
  rw [<-hD] at r2
  rw [r2]
  cases hc
  conv=>whnf
  refine hK _ ?_
  conv=>whnf
  rw [<-r1]
  have hgm:(g:Int)%4294967296=g:=by omega
  show S.d (.v (.int .u32 ((g:Int)%4294967296)))=_
  rw [hgm]
 |false=>
  have hlt:s<g*V:=by
   by_cases hlt:s<g*V
   ·exact hlt
   ·rw [if_neg hlt] at hbb
    simp at hbb
  obtain ⟨r1,r2,r3⟩:=qDY hV0 h.hV hgu hlt
  rw [<-hD] at r2 r3
  rw [Nat.mod_eq_of_lt r2]
  cases hc
  conv=>whnf
  refine ⟨(),⟨r1,r2,r3⟩, ?_⟩
  exact qa7 ⟨qai _,qai _,⟨rfl,rfl,rfl,rfl,rfl⟩,qai _,qai _,qai _,trivial⟩ ⟨trivial,rfl,rfl,rfl,rfl,trivial⟩
def dg5(b0 b1 b3 b4 b5:B)(m R V i k D g j:Nat):St:=⟨fr 194 [(0,.own 2 0),(1,.d (.l (us (ln V)))),(2,.d (i64 i)),(7,.d (i64 k)),(9,.d (u64 g)),(15,.d (u32 (car D V j))),(157,.d (.l (us (ln V)))),(158,.d (i64 k)),(159,.d (i64 j))], [b0,b1,.row 0 192 1 4 (us (dl m (mix (R%4294967296^i+D*4294967296^i) (D+V) i j))),b3,b4,b5]⟩
theorem qyi(b0 b1 b3 b4 b5:B){m R V i k s g D:Nat}(h:Dg m R V i k s){c:Code}(hc:Tryz.f248.body=some c)(K:Ex->St->Prop):
  goL Tryz.prog tbl (fun t=>false) (((fl c).drop 11).take 3) (dg6 b0 b1 b3 b4 b5 m R V i k g D ())
   (lpX (fun st'=> ∃j:Nat,j=k/\qc4 st' (dg5 b0 b1 b3 b4 b5 m R V i k D g j)) K):=by
 have lv:=h.lv
 have hk:=h.hk
 have hm:=h.hm
 have hms:=h.hms
 cases hc
 conv=>whnf
 refine qah (fun t=>false) (dg5 b0 b1 b3 b4 b5 m R V i k D g) (fun j=>j<=k) (fun j=>k-j) 0 mixed tOk (Nat.zero_le _) ?_ ?_
 ·refine qa7 ⟨qai _,qai _,⟨rfl,rfl,rfl,rfl, ?_⟩,qai _,qai _,qai _,trivial⟩ ⟨trivial,rfl,rfl,rfl,rfl, ?_,rfl, ?_,rfl,trivial⟩
  ·rw [qmt]
  ·conv=>whnf
   simp [car,Nat.mod_one]
  ·conv=>whnf
   rw [h.lv]
 ·intro j hj
  have hru:(us (dl m (mix (R%4294967296^i+D*4294967296^i) (D+V) i j))).length=m:=by rw [qan,dl_length]
  have hu:=mlt (D/4294967296^j)
  have hv:=mlt (V/4294967296^j)
  have hca:=car_le D V j
  obtain ⟨c1,c2⟩:=car_step D V j
  have hU:(us (dl m (mix (R%4294967296^i+D*4294967296^i) (D+V) i j)))[i+j]? =some (u32 ((D/4294967296^j%4294967296:Nat):Int)):=by
   have:=qeJ (dl_get (m:=m) (mix (R%4294967296^i+D*4294967296^i) (D+V) i j) (i:=i+j) (by omega))
   rwa [qi2,qnd] at this
  conv=>whnf
  refine qaf (fun h2=> ?_) (fun h2=> ?_)
  ·conv=>whnf
   refine qae _ (h.W j _ (by omega) (by omega)) (by omega) (qaq _) ?_
   conv=>whnf
   refine qak (by omega) ?_
   conv=>whnf
   refine qak (by omega) ?_
   conv=>whnf
   refine qa0 (by omega) (qaq _) ?_
   conv=>whnf
   refine qbb (i:=i+j) (r:=0) _ _ hU (by omega) (by omega) (qaq _) rfl ?_
   conv=>whnf
   refine qaa rfl rfl (qxj ((D/4294967296^j%4294967296:Nat):Int) ((V/4294967296^j%4294967296:Nat):Int) (car D V j:Nat) (by omega) (by omega) (by omega)) ?_
   conv=>whnf
   refine qa0 (by omega) (qaq _) ?_
   conv=>whnf
   have a1:(((D/4294967296^j%4294967296:Nat):Int)+((V/4294967296^j%4294967296:Nat):Int)+(car D V j:Nat))%4294967296=(((D+V)/4294967296^j%4294967296:Nat):Int):=by rw [<-c1];omega
   have a2:(((D/4294967296^j%4294967296:Nat):Int)+((V/4294967296^j%4294967296:Nat):Int)+(car D V j:Nat))/4294967296=((car D V (j+1):Nat):Int):=by rw [<-c2];omega
   rw [show ((i:Int)+(j:Int)).toNat=i+j by omega,a1]
   refine qaM (by omega) (qcI _) rfl ?_
   conv=>whnf
   refine qak (by omega) ?_
   conv=>whnf
   refine ⟨j+1,by omega,by omega, ?_⟩
   refine qa7 ⟨qai _,qai _,⟨rfl,rfl,rfl,rfl, ?_⟩,qai _,qai _,qai _,trivial⟩ ⟨trivial,rfl,rfl,rfl,rfl, ?_,rfl,rfl,rfl,trivial⟩
   ·rw [<-qjv,qcS]
   ·conv=>whnf
    rw [a2]
  ·conv=>whnf
   refine ⟨j,by omega, ?_⟩
   exact qa7 ⟨qai _,qai _,⟨rfl,rfl,rfl,rfl,rfl⟩,qai _,qai _,qai _,trivial⟩ ⟨trivial,rfl,rfl,rfl,rfl,rfl,rfl,rfl,rfl,trivial⟩
def dg7(b0 b1 b3 b4 b5:B)(m Z q:Nat)(_:Unit):St:=⟨fr 194 [(6,.d (u32 q))], [b0,b1,.row 0 192 1 4 (us (dl m Z)),b3,b4,b5]⟩
theorem qAP(b0 b1 b3 b4 b5:B){m R V i k s g D:Nat}(h:Dg m R V i k s)(hg:g<4294967296)(hg2:g=s/V+1)(hD:D<4294967296^(k+1))(hD2:(D+V)%4294967296^(k+1)=s%V){c:Code}(hc:Tryz.f248.body=some c)(K:Ex->St->Prop):
  goL Tryz.prog tbl (fun t=>false) (((fl c).drop 14).take 2) (dg5 b0 b1 b3 b4 b5 m R V i k D g k)
   (lpX (fun st'=> ∃u:Unit,True/\qc4 st' (dg7 b0 b1 b3 b4 b5 m (R%4294967296^i+s%V*4294967296^i) (s/V) u)) K):=by
 have lv:=h.lv
 have hk:=h.hk
 have hm:=h.hm
 have hms:=h.hms
 have hru:(us (dl m (mix (R%4294967296^i+D*4294967296^i) (D+V) i k))).length=m:=by rw [qan,dl_length]
 have hu:=mlt (D/4294967296^k)
 have hca:=car_le D V k
 obtain ⟨c1,c2⟩:=car_step D V k
 have hVk:V/4294967296^k=0:=Nat.div_eq_of_lt h.hV
 rw [hVk] at c1
 have hU:(us (dl m (mix (R%4294967296^i+D*4294967296^i) (D+V) i k)))[i+k]? =some (u32 ((D/4294967296^k%4294967296:Nat):Int)):=by
  have:=qeJ (dl_get (m:=m) (mix (R%4294967296^i+D*4294967296^i) (D+V) i k) (i:=i+k) (by omega))
  rwa [qi2,qnd] at this
 have hend:=qsA (R:=R) (E:=D+V) (i:=i) hD
 rw [hD2] at hend
 have a1:(((D/4294967296^k%4294967296:Nat):Int)+(car D V k:Nat))%4294967296=(((D+V)/4294967296^k%4294967296:Nat):Int):=by rw [<-c1];omega
 have ag:((g:Int)-1)%18446744073709551616%4294967296=((s/V:Nat):Int):=by
  generalize s/V=q at*
  omega
 cases hc
 conv=>whnf
 refine qak (by omega) ?_
 conv=>whnf
 refine qa0 (by omega) (qaq _) ?_
 conv=>whnf
 refine qbb (i:=i+k) (r:=0) _ _ hU (by omega) (by omega) (qaq _) rfl ?_
 conv=>whnf
 refine qa0 (by omega) (qaq _) ?_
 conv=>whnf
 rw [show ((i:Int)+(k:Int)).toNat=i+k by omega,a1]
 refine qaM (by omega) (qcI _) rfl ?_
 conv=>whnf
 refine ⟨(),trivial, ?_⟩
 refine qa7 ⟨qai _,qai _,⟨rfl,rfl,rfl,rfl, ?_⟩,qai _,qai _,qai _,trivial⟩ ⟨?_,trivial⟩
 ·rw [<-hend, <-qjv,qcS]
 ·conv=>whnf
  rw [ag]
theorem digit_ok(b0 b1 b3 b4 b5:B){m R V i k s:Nat}(h:Dg m R V i k s){c:Code}(hc:Tryz.f248.body=some c)(K:Ex->St->Prop)
  (hK: ∀env,lk env 6= .d (u32 (s/V:Nat))->K .ret ⟨env, [b0,b1,.row 0 192 1 4 (us (dl m (R%4294967296^i+s%V*4294967296^i))),b3,b4,b5]⟩):
  Ok Tryz.prog c ⟨fr 194 [(0,.own 2 0),(1,.d (.l (us (ln V)))),(2,.d (i64 i))], [b0,b1,.row 0 192 1 4 (us (dl m R)),b3,b4,b5]⟩ K:=by
 refine qpH 4 (fun t=>false) (fun p:Nat×Nat=>dg1 b0 b1 b3 b4 b5 m R V i k p.1 p.2) (fun p=>p.1*(V/4294967296^(k-1))+p.2=s/4294967296^(k-1)/\s/V<=p.1) mixed tOk (by cases hc;decide) (qx1 b0 b1 b3 b4 b5 h hc K) fun p hp=> ?_
 refine qee 1 (fun t=>false) (dg2 b0 b1 b3 b4 b5 m R V i k) (fun g=>s/V<=g/\g<=s/V+1/\g<4294967296) mixed tOk (by cases hc;decide) (qAV b0 b1 b3 b4 b5 h hc K p hp) ?_
 rintro g ⟨hg1,hg2,hg3⟩
 rw [List.drop_drop]
 refine qee 3 (fun t=>false) (dg3 b0 b1 b3 b4 b5 m R V i k s g) (fun j=>j=k) mixed tOk (by cases hc;decide) (qx7 b0 b1 b3 b4 b5 h hg3 hc K) ?_
 rintro j rfl
 rw [List.drop_drop]
 refine qee 1 (fun t=>false) (dg4 b0 b1 b3 b4 b5 m R V i j s g) (fun _=>True) mixed tOk (by cases hc;decide) (qAH b0 b1 b3 b4 b5 h hg3 hc K) ?_
 rintro ⟨⟩-
 rw [List.drop_drop]
 refine qee 1 (fun t=>false) (qzO b0 b1 b3 b4 b5 m R V i j s g) _ mixed tOk (by cases hc;decide) (qvb b0 b1 b3 b4 b5 hc K) ?_
 intro b hb
 rw [List.drop_drop]
 refine qee 1 (fun t=>false) (dg6 b0 b1 b3 b4 b5 m R V i j g (dD s j g V)) _ mixed tOk (by cases hc;decide) (qwY b0 b1 b3 b4 b5 h hg3 hg1 hg2 hb hc K hK) ?_
 rintro ⟨⟩ ⟨e1,e2,e3⟩
 rw [List.drop_drop]
 refine qee 3 (fun t=>false) (dg5 b0 b1 b3 b4 b5 m R V i j (dD s j g V) g) (fun l=>l=j) mixed tOk (by cases hc;decide) (qyi b0 b1 b3 b4 b5 h hc K) ?_
 rintro l rfl
 rw [List.drop_drop]
 refine qee 2 (fun t=>false) (dg7 b0 b1 b3 b4 b5 m (R%4294967296^i+s%V*4294967296^i) (s/V)) (fun _=>True) mixed tOk (by cases hc;decide) (qAP b0 b1 b3 b4 b5 h hg3 e1 e2 e3 hc K) ?_
 rintro ⟨⟩-
 refine qit mixed tOk (mu:=fun t=>false) ?_
 cases hc
 conv=>whnf
 exact hK _ rfl
end Go.Nv
end
section
namespace Go.Nv
open Go.Proofs Nw
theorem qBa{b:Nat}(hb:0<b):32-qiw (b/4294967296^((ln b).length-1)%4294967296)<=31/\2147483648*4294967296^((ln b).length-1)<=b*2^(32-qiw (b/4294967296^((ln b).length-1)%4294967296))/\b*2^(32-qiw (b/4294967296^((ln b).length-1)%4294967296))<4294967296^(ln b).length:=by
 have h1:=qnk (a:=b) (by omega)
 have h2:=qax b
 have hl0:0<(ln b).length:=by
  rcases Nat.eq_zero_or_pos (ln b).length with h|h
  ·rw [h,Nat.pow_zero] at h2;omega
  ·exact h
 generalize hL:(ln b).length=L at*
 have hp:=qbY (L-1)
 have e:4294967296^L=4294967296*4294967296^(L-1):=by rw [<-Nat.pow_succ'];congr 1;omega
 have ht1:1<=b/4294967296^(L-1):=(Nat.le_div_iff_mul_le hp).2 (by omega)
 have ht2:b/4294967296^(L-1)<4294967296:=(Nat.div_lt_iff_lt_mul hp).2 (by omega)
 rw [Nat.mod_eq_of_lt ht2]
 have hd:=Nat.div_add_mod b (4294967296^(L-1))
 have hm:=Nat.mod_lt b hp
 generalize hT:b/4294967296^(L-1)=t at*
 obtain ⟨l1,l2⟩:=qr2 (x:=t) (by omega)
 have l3:=qfZ (x:=t) (k:=32) ht2
 have l4:0<qiw t:=by unfold qiw;split<;>omega
 generalize hn:qiw t=w at*
 have e1:2^(w-1)*2^(32-w)=2147483648:=by
  rw [<-Nat.pow_add,show w-1+(32-w)=31 by omega]
 have e2:2^w*2^(32-w)=4294967296:=by
  rw [<-Nat.pow_add,show w+(32-w)=32 by omega]
 refine ⟨by omega, ?_, ?_⟩
 ·have:=Nat.mul_le_mul_right (2^(32-w)) (Nat.mul_le_mul_right (4294967296^(L-1)) l1)
  rw [Nat.mul_right_comm,e1] at this
  refine Nat.le_trans this (Nat.mul_le_mul_right _ ?_)
  rw [Nat.mul_comm];omega
 ·have h5:b<2^w*4294967296^(L-1):=by
   refine Nat.lt_of_lt_of_le ?_ (Nat.mul_le_mul_right _ (show t+1<=2^w from l2))
   rw [Nat.add_mul,Nat.one_mul,Nat.mul_comm t]
   omega
  have h6:=Nat.mul_lt_mul_of_pos_right h5 (Nat.pow_pos (n:=32-w) (show 0<2 by omega))
  rw [Nat.mul_right_comm,e2] at h6
  omega
def qvg(M la n V A x:Nat)(y:Int):St:=⟨fr 73 [(4,.own 0 0),(5,.own 1 0),(8,.d (i64 n)),(9,.own 2 0),(10,.d (.l (us (ln V)))),(11,.own 4 0),(12,.d (i64 y))],
 [.row 0 192 1 4 [],.row 0 192 1 4 [],.row 0 192 1 4 (us (dl (la+1) (A%(V*4294967296^x)))),.dead,.row 0 192 1 4 (us (dl M (A/(V*4294967296^x)*4294967296^x)))]⟩
structure Dv (a b M n V A:Nat):Prop where
 hb:0<b
 ha:(ln a).length<900000000000
 hab:b<=a
 hl2:2<=(ln b).length
 hlab:(ln b).length<=(ln a).length
 hn:n<=31
 hV1:2147483648*4294967296^((ln b).length-1)<=V
 hV2:V<4294967296^(ln b).length
 hlV:(ln V).length=(ln b).length
 hM:M=(ln a).length+1-(ln b).length
 hA:a*2^n=A
 hV:b*2^n=V
 hn':32-qiw (b/4294967296^((ln b).length-1)%4294967296)=n
theorem qBP{a b:Nat}(hb:0<b)(ha:(ln a).length<900000000000)(hab:b<=a)(hl2:2<=(ln b).length): ∃M n V A,Dv a b M n V A:=by
 obtain ⟨hn31,hV1,hV2⟩:=qBa hb
 generalize hn:32-qiw (b/4294967296^((ln b).length-1)%4294967296)=n at*
 refine ⟨_,n,_,_,hb,ha,hab,hl2,qa2 hab,hn31,hV1,hV2, ?_,rfl,rfl,rfl,hn⟩
 have h3:=qbC hV2
 have h4:=qax (b*2^n)
 refine Nat.le_antisymm h3 ?_
 rcases Nat.lt_or_ge (ln (b*2^n)).length (ln b).length with h|h
 ·have h5:4294967296^(ln (b*2^n)).length<=4294967296^((ln b).length-1):=Nat.pow_le_pow_right (by omega) (by omega)
  have h6:=qbY ((ln b).length-1)
  omega
 ·exact h
section
variable {a b M n V A:Nat} (h:Dv a b M n V A)
include h
theorem Dv.V0:0<V:=by rw [<-h.hV];exact Nat.mul_pos h.hb (Nat.pow_pos (by omega))
theorem Dv.AM:A<V*4294967296^M:=by
 have h6:=qax a
 have hl2:=h.hl2
 have hlab:=h.hlab
 have hM:=h.hM
 have h7:A<4294967296^(ln a).length*2147483648:=by
  rw [<-h.hA]
  refine Nat.lt_of_lt_of_le (Nat.mul_lt_mul_of_pos_right h6 (Nat.pow_pos (by omega))) (Nat.mul_le_mul_left _ ?_)
  exact Nat.le_trans (Nat.pow_le_pow_right (by omega) h.hn) (by decide)
 have h8:=Nat.mul_le_mul_right (4294967296^M) h.hV1
 have h9:4294967296^((ln b).length-1)*4294967296^M=4294967296^(ln a).length:=by
  rw [<-Nat.pow_add];congr 1;omega
 rw [Nat.mul_assoc,h9] at h8
 omega
end
theorem qo6{a b M n V A:Nat}(h:Dv a b M n V A){c:Code}(hc:Tryz.f180.body=some c)(K:Ex->St->Prop):
  goL Tryz.prog tbl (fun t=>false) ((fl c).take 9) (qeD [.l (us (ln a)),.l (us (ln b))] 73) (lpX (fun st'=> ∃x:Unit,True/\qc4 st' (qvg M (ln a).length n V A M ((M:Int)-1))) K):=by
 have la:=qan (ln a)
 have lb:=qan (ln b)
 obtain ⟨hb,ha,hab,hl2,hlab,hn,hV1,hV2,hlV,hM,hA,hV,hn'⟩:=id h
 have hAM:=h.AM
 cases hc
 conv=>whnf
 refine qaa rfl rfl (qbR a b (by omega) (by omega)) ?_
 conv=>whnf
 refine qaU (by unfold qcA;split<;>(try split)<;>omega) ?_
 conv=>whnf
 refine qa9 (fun h2=>by omega) (fun h2=> ?_)
 conv=>whnf
 refine qak (by omega) ?_
 conv=>whnf
 refine qae _ (by rw [show (((us (ln b)).length:Int)-1).toNat=(ln b).length-1 by omega];exact qb9 (a:=b) (i:=(ln b).length-1) (by omega)) (by omega) (qaq _) ?_
 conv=>whnf
 have htop:=mlt (b/4294967296^((ln b).length-1))
 refine qaa rfl rfl (qzG _ htop) ?_
 conv=>whnf
 rw [hn']
 refine qfS (bytes:=4) rfl rfl (qpW a n hn (by omega)) ?_
 conv=>whnf
 refine qfS (bytes:=4) rfl rfl (qpW b n hn (by omega)) ?_
 conv=>whnf
 refine qbn 3 (qa4 rfl rfl (trim_c (dl ((ln b).length+1) (b*2^n)) (lim_dl _ _) (by rw [dl_length];omega)) rfl ?_)
 conv=>whnf
 have hlvV:lv (dl ((ln b).length+1) (b*2^n))=b*2^n:=by
  rw [lv_dl,Nat.mod_eq_of_lt]
  rw [hV]
  exact Nat.lt_trans hV2 (Nat.pow_lt_pow_right (by omega) (by omega))
 rw [hlvV,hV,hA]
 have lV:=qan (ln V)
 have lu:=qan (dl ((ln a).length+1) A)
 rw [dl_length] at lu
 refine qak (by omega) ?_
 conv=>whnf
 refine qak (by simp only [maxLen];omega) ?_
 conv=>whnf
 rw [show (((us (dl ((ln a).length+1) A)).length:Int)-((us (ln V)).length:Int)).toNat=M by omega,qh1, <-dl_zero]
 have lq:=qan (dl M 0)
 rw [dl_length] at lq
 refine qak (by omega) ?_
 conv=>whnf
 refine ⟨(),trivial, ?_⟩
 refine qag ?_ ?_<;>repeat' (first|exact trivial|exact rfl|apply And.intro)
 ·rw [Nat.mod_eq_of_lt hAM]
 ·rw [Nat.div_eq_of_lt hAM,Nat.zero_mul]
 ·conv=>whnf
  omega
theorem qpL{a b M n V A:Nat}(h:Dv a b M n V A){c:Code}(hc:Tryz.f180.body=some c):
  OkL Tryz.prog ((fl c).drop 10) (qvg M (ln a).length n V A 0 (-1)) (qDe tbl Tryz.f180.results.toList [.l (us (ln (a/b))),.l (us (ln (a%b)))]):=by
 obtain ⟨hb,ha,hab,hl2,hlab,hn,hV1,hV2,hlV,hM,hA,hV,hn'⟩:=id h
 have hV0:=h.V0
 refine qit mixed tOk (mu:=fun t=>false) ?_
 cases hc
 conv=>whnf
 refine qbn 4 (qa4 rfl rfl (trim_c (dl M (A/(V*4294967296^0)*4294967296^0)) (lim_dl _ _) (by rw [dl_length];omega)) rfl ?_)
 conv=>whnf
 refine qbn 2 (qa4 rfl rfl (trim_c (dl ((ln a).length+1) (A%(V*4294967296^0))) (lim_dl _ _) (by rw [dl_length];omega)) rfl ?_)
 conv=>whnf
 have hR:A%V<4294967296^((ln a).length+1):=by
  refine Nat.lt_of_lt_of_le (Nat.lt_trans (Nat.mod_lt _ hV0) hV2) (Nat.pow_le_pow_right (by omega) (by omega))
 have hQ:A/V<4294967296^M:=by
  have:=h.AM
  exact (Nat.div_lt_iff_lt_mul hV0).2 (by rw [Nat.mul_comm];exact this)
 have e1:lv (dl ((ln a).length+1) (A%(V*4294967296^0)))=A%V:=by
  rw [lv_dl,Nat.pow_zero,Nat.mul_one,Nat.mod_eq_of_lt hR]
 have e2:lv (dl M (A/(V*4294967296^0)*4294967296^0))=A/V:=by
  rw [lv_dl,Nat.pow_zero,Nat.mul_one,Nat.mul_one,Nat.mod_eq_of_lt hQ]
 rw [e1,e2]
 have hlR:(ln (A%V)).length<=(ln b).length:=by
  have h1:=qa2 (Nat.le_of_lt (Nat.mod_lt A hV0))
  omega
 refine qaa rfl rfl (qqh (A%V) n hn (by omega)) ?_
 conv=>whnf
 have e3:A%V/2^n=a%b:=by
  rw [<-hA, <-hV,Nat.mul_mod_mul_right,Nat.mul_div_cancel _ (Nat.pow_pos (by omega))]
 have e4:A/V=a/b:=by
  rw [<-hA, <-hV,Nat.mul_div_mul_right _ _ (Nat.pow_pos (by omega))]
 rw [e3,e4]
 refine ⟨?_, ?_⟩
 ·conv=>whnf
 ·conv=>whnf
  refine ⟨?_,trivial⟩
  conv=>whnf
end Go.Nv
end
section
namespace Go.Nv
open Go.Proofs Nw
theorem qs7{T:Tb}{r k:Nat}{dst:Option Tmp}{K:St->Prop}{st:St}{s:S}{cs:List S}(h:lk st.env r=s)(hg:qcT st.t k= .ghost cs)(hk:frc ⟨qdZ cs dst s,qaY st.t k .dead⟩ K):qxJ T [.tmp r] k dst K .ret st:=by
 subst h
 unfold qxJ
 simp only [qid,qri,hg]
 exact hk
theorem qoz(b0 b1 b3 b4:B){m R V i k s:Nat}(h:Dg m R V i k s){env:List S}{x y z:Tmp}{dst:Option Tmp}{K:St->Prop}
  (h1:lk env x= .own 2 0) (h2:lk env y= .d (.l (us (ln V)))) {y':Int} (h3:lk env z= .d (i64 y')) (hy:y'=i)
  (hK:frc ⟨qdZ env dst (.d (u32 (s/V:Nat))), [b0,b1,.row 0 192 1 4 (us (dl m (R%4294967296^i+s%V*4294967296^i))),b3,b4,.dead]⟩ K):
  qbJ Tryz.prog (.func 248) [.tmp x,.tmp y,.tmp z] dst ⟨env, [b0,b1,.row 0 192 1 4 (us (dl m R)),b3,b4]⟩ K:=by
 subst hy
 refine qhN mixed tOk (g:=248) (cap:= []) (fn:=Tryz.f248) (c:=_) rfl rfl rfl rfl ?_
 have e:qbr (evx (⟨env, [b0,b1,.row 0 192 1 4 (us (dl m R)),b3,b4]⟩:St).env) [Operand.tmp x,.tmp y,.tmp z] = [.own 2 0,.d (.l (us (ln V))),.d (i64 i)] :=by
  simp [qbr,evx,h1,h2,h3]
 rw [e]
 refine digit_ok b0 b1 b3 b4 (.ghost env) h rfl _ (fun env' h6=> ?_)
 refine qs7 h6 rfl ?_
 exact hK
theorem qpF{a b M n V A:Nat}(h:Dv a b M n V A){c:Code}(hc:Tryz.f180.body=some c)(K:Ex->St->Prop):
  goL Tryz.prog tbl (fun t=>false) (((fl c).drop 9).take 1) (qvg M (ln a).length n V A M ((M:Int)-1)) (lpX (fun st'=> ∃x:Unit,True/\qc4 st' (qvg M (ln a).length n V A 0 (-1))) K):=by
 obtain ⟨hb,ha,hab,hl2,hlab,hn,hV1,hV2,hlV,hM,hA,hV,hn'⟩:=id h
 have hV0:=h.V0
 cases hc
 conv=>whnf
 refine qah (fun t=>false) (fun x:Nat=>qvg M (ln a).length n V A x ((x:Int)-1)) (fun x=>x<=M) (fun x=>x) M mixed tOk (Nat.le_refl _) ?_ ?_
 conv=>whnf
 ·refine qag ?_ ?_<;>repeat' (first|exact trivial|exact rfl|apply And.intro)
 ·intro x hx
  rcases Nat.eq_zero_or_pos x with rfl|hx0
  ·conv=>whnf
   refine qaU (by omega) ?_
   conv=>whnf
   refine ⟨(),trivial, ?_⟩
   refine qag ?_ ?_<;>repeat' (first|exact trivial|exact rfl|apply And.intro)
  ·obtain ⟨i,hi⟩: ∃i,x=i+1:=⟨x-1,by omega⟩
   conv=>whnf
   refine qaI (by omega) ?_
   conv=>whnf
   have hdg:Dg ((ln a).length+1) (A%(V*4294967296^x)) V i (ln b).length (A%(V*4294967296^x)/4294967296^i):=by
    subst hi
    exact ⟨hl2,by omega,by omega,hV2,hV1,hlV,rfl,qwm hV0⟩
   refine qoz _ _ _ _ hdg rfl rfl rfl (by omega) ?_
   conv=>whnf
   have lq:=qan (dl M (A/(V*4294967296^x)*4294967296^x))
   rw [dl_length] at lq
   refine qa0 (by omega) (qaq _) ?_
   conv=>whnf
   refine qaM (by omega) (qcI _) rfl ?_
   conv=>whnf
   refine qak (by omega) ?_
   conv=>whnf
   refine ⟨i,by omega,by omega, ?_⟩
   refine qag ?_ ?_<;>repeat' (first|exact trivial|exact rfl|apply And.intro)
   ·rw [hi,qAo]
   ·rw [show ((x:Int)-1).toNat=i by omega,qcS,hi,qAw,qt4 (Nat.mod_lt _ (by omega))]
    congr 3
    rw [Nat.pow_succ, <-Nat.mul_assoc, <-Nat.div_div_eq_div_mul,Nat.mul_comm,Nat.div_add_mod]
   ·conv=>whnf
    omega
theorem qmH(a b:Nat)(hb:0<b)(ha:(ln a).length<900000000000)(hbs:(ln b).length<900000000000):Fun Tryz.prog 180 [.l (us (ln a)),.l (us (ln b))] [.l (us (ln (a/b))),.l (us (ln (a%b)))] :=by
 have la:=qan (ln a)
 have lb:=qan (ln b)
 rcases Nat.lt_or_ge a b with hab|hab
 ·refine qad (fun t=>false) mixed tOk Tryz.func180 rfl rfl ?_
  conv=>whnf
  refine qaa rfl rfl (qbR a b (by omega) (by omega)) ?_
  conv=>whnf
  refine qaI (by unfold qcA;rw [if_pos hab];omega) ?_
  conv=>whnf
  rw [Nat.div_eq_of_lt hab,Nat.mod_eq_of_lt hab]
  refine ⟨?_, ?_⟩
  ·conv=>whnf
   rw [qaR]
   unfold us;rfl
  ·conv=>whnf
   refine ⟨?_,trivial⟩
   conv=>whnf
 rcases Nat.lt_or_ge 1 (ln b).length with hl|hl
 ·obtain ⟨M,n,V,A,h⟩:=qBP hb ha hab hl
  refine qis mixed tOk (fn:=Tryz.f180) (c:=_) rfl rfl rfl ?_
  refine qpH 9 (fun t=>false) (fun _:Unit=>qvg M (ln a).length n V A M ((M:Int)-1)) (fun _=>True) mixed tOk (by decide) (qo6 h rfl _) fun _ _=> ?_
  refine qee 1 (fun t=>false) (fun _:Unit=>qvg M (ln a).length n V A 0 (-1)) (fun _=>True) mixed tOk (by decide) (qpF h rfl _) fun _ _=> ?_
  rw [List.drop_drop]
  exact qpL h rfl
 ·have hl1:(ln b).length=1:=by
   rcases Nat.eq_zero_or_pos (ln b).length with h|h
   ·have:=qax b
    rw [h,Nat.pow_zero] at this
    omega
   ·omega
  have hb1:b<4294967296:=by
   have:=qax b
   rw [hl1,Nat.pow_one] at this
   exact this
  have hU:(us (ln b))[0]? =some (u32 (b:Int)):=by
   have:=qb9 (a:=b) (i:=0) (by omega)
   rwa [Nat.pow_zero,Nat.div_one,Nat.mod_eq_of_lt hb1] at this
  have hr32:a%b<4294967296:=Nat.lt_trans (Nat.mod_lt _ hb) hb1
  refine qad (fun t=>false) mixed tOk Tryz.func180 rfl rfl ?_
  conv=>whnf
  refine qaa rfl rfl (qbR a b (by omega) (by omega)) ?_
  conv=>whnf
  refine qaU (by unfold qcA;split<;>(try split)<;>omega) ?_
  conv=>whnf
  refine qa9 (fun h2=> ?_) (fun h2=>by omega)
  conv=>whnf
  refine qae _ hU (by omega) (qaq _) ?_
  conv=>whnf
  refine qaa rfl rfl (qxC a b hb hb1 (by omega)) ?_
  conv=>whnf
  refine qa4 rfl rfl (trim_c [a%b] (by intro x hx;simp at hx;omega) (by simp)) (by unfold us;rfl) ?_
  conv=>whnf
  have hlv:lv [a%b] =a%b:=by simp [lv]
  rw [hlv]
  refine ⟨?_, ?_⟩
  ·conv=>whnf
  ·conv=>whnf
   refine ⟨?_,trivial⟩
   conv=>whnf
end Go.Nv
end
