import Derived.Test.YtlmmifgminkdkaaGreatNvD2
import Derived.Test.YtlmmifgminkdkaaGreatNvP1
import Derived.Test.YtlmmifgminkdkaaGreatNvN6
set_option linter.all false
set_option maxRecDepth 100000
section
namespace Go.Nv
open Go.Proofs Nw
def bd(m v:Nat):List UInt8:=(N8.dl m v).reverse.map UInt8.ofNat
theorem qb2(m v:Nat):(bd m v).length=m:=by simp [bd,N8.dl_length]
theorem qrp: ∀(l:List Nat),N8.Lim l->bvl (l.reverse.map UInt8.ofNat)=N8.lv l
 | [],_=>rfl
 |x::l,h=>by
  have hx:=h x (List.mem_cons_self ..)
  have ih:=qrp l fun y hy=>h y (List.mem_cons_of_mem _ hy)
  rw [List.reverse_cons,List.map_append,List.map_cons,List.map_nil,qb8,ih,N8.lv]
  simp only [UInt8.toNat_ofNat']
  omega
theorem qqy(m v:Nat):bvl (bd m v)=v%256^m:=by
 unfold bd;rw [qrp _ (N8.lim_dl m v),N8.lv_dl]
theorem qmu(m:Nat):bd m 0=List.replicate m 0:=by
 unfold bd;rw [N8.dl_zero];simp
theorem quz{m j:Nat}(v:Nat)(h:j<m):(bd m v)[m-1-j]? =some (UInt8.ofNat (v/256^j%256)):=by
 unfold bd
 rw [List.getElem?_map,List.getElem?_reverse (by rw [N8.dl_length];omega),N8.dl_length,show m-1-(m-1-j)=j by omega,N8.dl_get v h]
 rfl
theorem qqg(l:List Nat)(j d:Nat)(h:j<l.length):(l.reverse.map UInt8.ofNat).set (l.length-1-j) (UInt8.ofNat d)=((l.set j d).reverse).map UInt8.ofNat:=by
 apply List.ext_getElem?
 intro i
 rw [List.getElem?_set,List.getElem?_map,List.getElem?_map]
 simp only [List.length_map,List.length_reverse]
 by_cases hi:i<l.length
 ·rw [List.getElem?_reverse hi,List.getElem?_reverse (by simpa using hi),List.getElem?_set]
  simp only [List.length_set]
  by_cases e:l.length-1-j=i
  ·rw [if_pos e,if_pos (by omega),if_pos (by omega),if_pos (by omega)];rfl
  ·rw [if_neg e,if_neg (by omega)]
 ·rw [List.getElem?_eq_none (by simp;omega),List.getElem?_eq_none (by simp;omega),if_neg (by omega)]
theorem qug{m j d:Nat}(R:Nat)(hj:j<m)(hd:d<256):(bd m R).set (m-1-j) (UInt8.ofNat d)=bd m (R%256^j+(d+R/256^(j+1)*256)*256^j):=by
 unfold bd
 have:=qqg (N8.dl m R) j d (by rw [N8.dl_length];exact hj)
 rw [N8.dl_length] at this
 rw [this,N8.dl_set R hd]
theorem qiH{m i:Nat}(v:Nat)(hi:i<m):(bd m (v%256^i)).set (m-1-i) (UInt8.ofNat (v/256^i%256))=bd m (v%256^(i+1)):=by
 unfold bd
 have:=qqg (N8.dl m (v%256^i)) i (v/256^i%256) (by rw [N8.dl_length];exact hi)
 rw [N8.dl_length] at this
 rw [this,N8.dl_mod_set v hi]
theorem qnJ(l:List UInt8)(k:Nat)(h:k<=l.length):bvl (l.take (l.length-k))=bvl l/256^k:=by
 have e:=qiN (l.take (l.length-k)) (l.drop (l.length-k))
 rw [List.take_append_drop] at e
 have hl:(l.drop (l.length-k)).length=k:=by rw [List.length_drop];omega
 have hb:=qaV (l.drop (l.length-k))
 rw [hl] at e hb
 rw [e,Nat.mul_comm,Nat.mul_add_div (Nat.pow_pos (by omega)),Nat.div_eq_of_lt hb];rfl
theorem bt_end(s:ByteArray)(k:Nat)(h:k<s.size):bt s ((s.size:Int)-((k+1:Nat):Int))=((bv s/256^k%256:Nat):Int):=by
 obtain ⟨p1,p2⟩:=qew s (s.size-(k+1)) (by omega)
 have e:((s.size:Int)-((k+1:Nat):Int))=((s.size-(k+1):Nat):Int):=by omega
 rw [e,p1]
 have hl:s.data.toList.length=s.size:=rfl
 have t1:=qnJ s.data.toList (k+1) (by omega)
 have t2:=qnJ s.data.toList k (by omega)
 rw [hl] at t1 t2
 unfold pre at p2
 rw [t1,show s.size-(k+1)+1=s.size-k by omega,t2] at p2
 unfold bv
 generalize bvl s.data.toList/256^(k+1)=a at*
 generalize bvl s.data.toList/256^k=b at*
 have:=(s.data.toList[s.size-(k+1)]'(by omega)).toNat_lt
 congr 1
 omega
theorem qjO(m:Nat):by8 (List.replicate m 0)=List.replicate m (.v (.int .u8 0)):=by unfold by8;simp
theorem qdm(l:List UInt8)(i:Nat)(x:UInt8):by8 (l.set i x)=(by8 l).set i (.v (.int .u8 (x.toNat:Int))):=by unfold by8;simp [List.map_set]
theorem qdp(l:List UInt8): ∀x∈by8 l,∃u,x= .v u:=by
 unfold by8;intro x hx;simp only [List.mem_map] at hx;obtain ⟨n,_,rfl⟩:=hx;exact ⟨_,rfl⟩
theorem qBO(s:ByteArray)(k:Nat)(h:s.size<=k):bv s/256^k%256=0:=by
 have h1:bv s<256^s.size:=qaV _
 have h2:=Nat.pow_le_pow_right (n:=256) (by omega) h
 rw [Nat.div_eq_of_lt (by omega)]
theorem qyQ(n:Int):Int.fdiv n (2^min ((8:Int).toNat) IntKind.i64.bits)=n/256:=by
 have:((2:Int)^min (Int.toNat 8) IntKind.i64.bits)=256:=by decide
 rw [this,Int.fdiv_eq_ediv_of_nonneg _ (by omega)]
theorem qq6(s t:ByteArray)(hs:s.size<1000000000000)(ht:t.size<1000000000000):Fun Tryz.prog 315 [.v (.string s),.v (.string t)] [.v (.string (nb (bv s+bv t)))] :=by
 refine qac (fun t=>false) mixed tOk Tryz.func315 rfl rfl ?_
 conv=>whnf
 generalize hm:(if (s.size:Int)<(t.size:Int) then (t.size:Int) else (s.size:Int))=M
 obtain ⟨m,rfl,m1,m2⟩: ∃m:Nat,M=m/\s.size<=m/\t.size<=m:=⟨M.toNat,by omega,by omega,by omega⟩
 have m3:m<1000000000000:=by omega
 refine qak (by omega) ?_
 conv=>whnf
 refine qak (by simp only [maxLen];omega) ?_
 conv=>whnf
 refine qah (fun t=>false) (fun k:Nat=>⟨fr 60 [(0,.d (.v (.string s))),(1,.d (.v (.string t))),(5,.d (i64 ((m:Int)+1))),(6,.own 0 0),(7,.d (i64 (N8.car (bv s) (bv t) k:Nat))),(8,.d (i64 ((k+1:Nat):Int)))], [.row 0 5 1 1 (by8 (bd (m+1) ((bv s+bv t)%256^k)))]⟩) (fun k=>k<=m+1) (fun k=>m+1-k) 0 mixed tOk (Nat.zero_le _) ?_ ?_
 ·refine qag ⟨⟨rfl,rfl,rfl,rfl, ?_⟩,trivial⟩ ⟨rfl,rfl, ?_,trivial, ?_, ?_,trivial⟩
  ·show List.replicate _ _=_
   rw [Nat.pow_zero,Nat.mod_one,qmu,qjO];congr 1
  ·conv=>whnf
  ·conv=>whnf
   simp [N8.car,Nat.mod_one]
  ·rfl
 ·intro k hk
  conv=>whnf
  have hcar:=N8.car_le (bv s) (bv t) k
  have hx:bv s/256^k%256<256:=Nat.mod_lt _ (by omega)
  have hy:bv t/256^k%256<256:=Nat.mod_lt _ (by omega)
  have hst:=N8.car_step (bv s) (bv t) k
  have hset:=qiH (m:=m+1) (bv s+bv t) (i:=k)
  have hl:=qcC (bd (m+1) ((bv s+bv t)%256^k))
  rw [qb2] at hl
  refine qaf (fun h2=> ?_) (fun h2=> ?_)<;>conv=>whnf
  ·refine qaf (fun h3=> ?_) (fun h3=> ?_)<;>conv=>whnf
   ·refine qak (by omega) ?_
    conv=>whnf
    refine qak (by omega) ?_
    conv=>whnf
    rw [bt_end s k (by omega)]
    conv=>whnf
    refine qak (by omega) ?_
    conv=>whnf
    refine qak (by omega) ?_
    conv=>whnf
    refine qaf (fun h4=> ?_) (fun h4=> ?_)<;>conv=>whnf
    ·refine qak (by omega) ?_
     conv=>whnf
     refine qak (by omega) ?_
     conv=>whnf
     rw [bt_end t k (by omega)]
     conv=>whnf
     refine qak (by omega) ?_
     conv=>whnf
     refine qak (by omega) ?_
     conv=>whnf
     refine qak (by omega) ?_
     conv=>whnf
     refine qa2 (by omega) (qch _) ?_
     conv=>whnf
     refine qaN (by omega) (qdp _) rfl ?_
     conv=>whnf
     refine qak (by omega) ?_
     conv=>whnf
     refine qak (by omega) ?_
     conv=>whnf
     refine ⟨k+1,by omega,by omega,qag ⟨⟨rfl,rfl,rfl,rfl, ?_⟩,trivial⟩ ⟨rfl,rfl, ?_,trivial, ?_, ?_,trivial⟩⟩
     ·rw [<-hset (by omega),qdm]
      congr 1
      ·omega
      ·congr 2
       simp only [UInt8.toNat_ofNat']
       omega
     ·conv=>whnf
     ·conv=>whnf
      rw [qyQ]
      omega
     ·conv=>whnf
      omega
    ·have zy:=qBO t k (by omega)
     refine qak (by omega) ?_
     conv=>whnf
     refine qa2 (by omega) (qch _) ?_
     conv=>whnf
     refine qaN (by omega) (qdp _) rfl ?_
     conv=>whnf
     refine qak (by omega) ?_
     conv=>whnf
     refine qak (by omega) ?_
     conv=>whnf
     refine ⟨k+1,by omega,by omega,qag ⟨⟨rfl,rfl,rfl,rfl, ?_⟩,trivial⟩ ⟨rfl,rfl, ?_,trivial, ?_, ?_,trivial⟩⟩
     ·rw [<-hset (by omega),qdm]
      congr 1
      ·omega
      ·congr 2
       simp only [UInt8.toNat_ofNat']
       omega
     ·conv=>whnf
     ·conv=>whnf
      rw [qyQ]
      omega
     ·conv=>whnf
      omega
   ·have zx:=qBO s k (by omega)
    refine qaf (fun h4=> ?_) (fun h4=> ?_)<;>conv=>whnf
    ·refine qak (by omega) ?_
     conv=>whnf
     refine qak (by omega) ?_
     conv=>whnf
     rw [bt_end t k (by omega)]
     conv=>whnf
     refine qak (by omega) ?_
     conv=>whnf
     refine qak (by omega) ?_
     conv=>whnf
     refine qak (by omega) ?_
     conv=>whnf
     refine qa2 (by omega) (qch _) ?_
     conv=>whnf
     refine qaN (by omega) (qdp _) rfl ?_
     conv=>whnf
     refine qak (by omega) ?_
     conv=>whnf
     refine qak (by omega) ?_
     conv=>whnf
     refine ⟨k+1,by omega,by omega,qag ⟨⟨rfl,rfl,rfl,rfl, ?_⟩,trivial⟩ ⟨rfl,rfl, ?_,trivial, ?_, ?_,trivial⟩⟩
     ·rw [<-hset (by omega),qdm]
      congr 1
      ·omega
      ·congr 2
       simp only [UInt8.toNat_ofNat']
       omega
     ·conv=>whnf
     ·conv=>whnf
      rw [qyQ]
      omega
     ·conv=>whnf
      omega
    ·have zy:=qBO t k (by omega)
     refine qak (by omega) ?_
     conv=>whnf
     refine qa2 (by omega) (qch _) ?_
     conv=>whnf
     refine qaN (by omega) (qdp _) rfl ?_
     conv=>whnf
     refine qak (by omega) ?_
     conv=>whnf
     refine qak (by omega) ?_
     conv=>whnf
     refine ⟨k+1,by omega,by omega,qag ⟨⟨rfl,rfl,rfl,rfl, ?_⟩,trivial⟩ ⟨rfl,rfl, ?_,trivial, ?_, ?_,trivial⟩⟩
     ·rw [<-hset (by omega),qdm]
      congr 1
      ·omega
      ·congr 2
       simp only [UInt8.toNat_ofNat']
       omega
     ·conv=>whnf
     ·conv=>whnf
      rw [qyQ]
      omega
     ·conv=>whnf
      omega
  ·have hk2:k=m+1:=by omega
   refine qaB (qgc _) ?_
   conv=>whnf
   refine qaa rfl rfl (qdT _) ?_
   conv=>whnf
   refine ⟨?_,trivial⟩
   conv=>whnf
   have b1:bv s<256^s.size:=qaV _
   have b2:bv t<256^t.size:=qaV _
   have b3:=Nat.pow_le_pow_right (n:=256) (by omega) m1
   have b4:=Nat.pow_le_pow_right (n:=256) (by omega) m2
   rw [qli,qqy,hk2,Nat.mod_mod,Nat.mod_eq_of_lt (by rw [Nat.pow_succ];omega)]
theorem qq1(s t:ByteArray)(hs:s.size<1000000000000)(ht:t.size<1000000000000)(hle:bv t<=bv s):Fun Tryz.prog 317 [.v (.string s),.v (.string t)] [.v (.string (nb (bv s-bv t)))] :=by
 refine qac (fun t=>false) mixed tOk Tryz.func317 rfl rfl ?_
 conv=>whnf
 generalize hm:s.size=m at hs
 refine qak (by simp only [maxLen];omega) ?_
 conv=>whnf
 refine qah (fun t=>false) (fun k:Nat=>⟨fr 55 [(0,.d (.v (.string s))),(1,.d (.v (.string t))),(5,.own 0 0),(6,.d (i64 (N8.bor (bv s) (bv t) k:Nat))),(7,.d (i64 ((k+1:Nat):Int)))], [.row 0 5 1 1 (by8 (bd m ((bv s-bv t)%256^k)))]⟩) (fun k=>k<=m) (fun k=>m-k) 0 mixed tOk (Nat.zero_le _) ?_ ?_
 ·refine qag ⟨⟨rfl,rfl,rfl,rfl, ?_⟩,trivial⟩ ⟨rfl,rfl,trivial, ?_, ?_,trivial⟩
  ·show List.replicate _ _=_
   rw [Nat.pow_zero,Nat.mod_one,qmu,qjO];congr 1
  ·conv=>whnf
   simp [N8.bor,Nat.mod_one]
  ·rfl
 ·intro k hk
  conv=>whnf
  have hbor:=N8.bor_le (bv s) (bv t) k
  have hx:bv s/256^k%256<256:=Nat.mod_lt _ (by omega)
  have hy:bv t/256^k%256<256:=Nat.mod_lt _ (by omega)
  have hst:=N8.bor_step (bv s) (bv t) k
  have hdg:=N8.sub_dig (bv s) (bv t) k hle
  have hset:=qiH (m:=m) (bv s-bv t) (i:=k)
  have hl:=qcC (bd m ((bv s-bv t)%256^k))
  rw [qb2] at hl
  refine qaf (fun h2=> ?_) (fun h2=> ?_)<;>conv=>whnf
  ·refine qak (by omega) ?_
   conv=>whnf
   refine qak (by omega) ?_
   conv=>whnf
   rw [bt_end s k (by omega)]
   conv=>whnf
   refine qak (by omega) ?_
   conv=>whnf
   refine qak (by omega) ?_
   conv=>whnf
   refine qaf (fun h4=> ?_) (fun h4=> ?_)<;>conv=>whnf
   ·refine qak (by omega) ?_
    conv=>whnf
    refine qak (by omega) ?_
    conv=>whnf
    rw [bt_end t k (by omega)]
    conv=>whnf
    refine qak (by omega) ?_
    conv=>whnf
    refine qak (by omega) ?_
    conv=>whnf
    refine qaf (fun h5=> ?_) (fun h5=> ?_)<;>conv=>whnf
    ·refine qak (by omega) ?_
     conv=>whnf
     refine qak (by omega) ?_
     conv=>whnf
     refine qa2 (by omega) (qch _) ?_
     conv=>whnf
     refine qaN (by omega) (qdp _) rfl ?_
     conv=>whnf
     refine qak (by omega) ?_
     conv=>whnf
     refine ⟨k+1,by omega,by omega,qag ⟨⟨rfl,rfl,rfl,rfl, ?_⟩,trivial⟩ ⟨rfl,rfl,trivial, ?_, ?_,trivial⟩⟩
     ·rw [<-hset (by omega),qdm]
      congr 1
      ·omega
      ·congr 2
       simp only [UInt8.toNat_ofNat']
       omega
     ·conv=>whnf
      rw [hst]
      split<;>omega
     ·conv=>whnf
      omega
    ·refine qak (by omega) ?_
     conv=>whnf
     refine qa2 (by omega) (qch _) ?_
     conv=>whnf
     refine qaN (by omega) (qdp _) rfl ?_
     conv=>whnf
     refine qak (by omega) ?_
     conv=>whnf
     refine ⟨k+1,by omega,by omega,qag ⟨⟨rfl,rfl,rfl,rfl, ?_⟩,trivial⟩ ⟨rfl,rfl,trivial, ?_, ?_,trivial⟩⟩
     ·rw [<-hset (by omega),qdm]
      congr 1
      ·omega
      ·congr 2
       simp only [UInt8.toNat_ofNat']
       omega
     ·conv=>whnf
      rw [hst]
      split<;>omega
     ·conv=>whnf
      omega
   ·have zy:=qBO t k (by omega)
    refine qaf (fun h5=> ?_) (fun h5=> ?_)<;>conv=>whnf
    ·refine qak (by omega) ?_
     conv=>whnf
     refine qak (by omega) ?_
     conv=>whnf
     refine qa2 (by omega) (qch _) ?_
     conv=>whnf
     refine qaN (by omega) (qdp _) rfl ?_
     conv=>whnf
     refine qak (by omega) ?_
     conv=>whnf
     refine ⟨k+1,by omega,by omega,qag ⟨⟨rfl,rfl,rfl,rfl, ?_⟩,trivial⟩ ⟨rfl,rfl,trivial, ?_, ?_,trivial⟩⟩
     ·rw [<-hset (by omega),qdm]
      congr 1
      ·omega
      ·congr 2
       simp only [UInt8.toNat_ofNat']
       omega
     ·conv=>whnf
      rw [hst]
      split<;>omega
     ·conv=>whnf
      omega
    ·refine qak (by omega) ?_
     conv=>whnf
     refine qa2 (by omega) (qch _) ?_
     conv=>whnf
     refine qaN (by omega) (qdp _) rfl ?_
     conv=>whnf
     refine qak (by omega) ?_
     conv=>whnf
     refine ⟨k+1,by omega,by omega,qag ⟨⟨rfl,rfl,rfl,rfl, ?_⟩,trivial⟩ ⟨rfl,rfl,trivial, ?_, ?_,trivial⟩⟩
     ·rw [<-hset (by omega),qdm]
      congr 1
      ·omega
      ·congr 2
       simp only [UInt8.toNat_ofNat']
       omega
     ·conv=>whnf
      rw [hst]
      split<;>omega
     ·conv=>whnf
      omega
  ·have hk2:k=m:=by omega
   refine qaB (qgc _) ?_
   conv=>whnf
   refine qaa rfl rfl (qdT _) ?_
   conv=>whnf
   refine ⟨?_,trivial⟩
   conv=>whnf
   have b1:bv s<256^s.size:=qaV _
   rw [hm] at b1
   rw [qli,qqy,hk2,Nat.mod_mod,Nat.mod_eq_of_lt (by omega)]
def bi(l:List UInt8):List D:=l.map fun b=> .v (.int .i64 (b.toNat:Int))
theorem qkQ(l:List UInt8):(bi l).length=l.length:=by simp [bi]
theorem qgr(l:List UInt8):Uni 1 (bi l):=by
 intro x hx
 simp only [bi,List.mem_map] at hx
 obtain ⟨n,_,rfl⟩:=hx
 rfl
theorem qt6(l:List UInt8): ∀x∈bi l,∃u,x= .v u:=by
 unfold bi;intro x hx;simp only [List.mem_map] at hx;obtain ⟨n,_,rfl⟩:=hx;exact ⟨_,rfl⟩
theorem qyK(m:Nat):bi (List.replicate m 0)=List.replicate m (.v (.int .i64 0)):=by unfold bi;simp
theorem quE(l:List UInt8)(i:Nat)(x:UInt8):bi (l.set i x)=(bi l).set i (.v (.int .i64 (x.toNat:Int))):=by unfold bi;simp [List.map_set]
theorem qrN{l:List UInt8}{i:Nat}{x:UInt8}(h:l[i]? =some x):(bi l)[i]? =some (.v (.int .i64 (x.toNat:Int))):=by unfold bi;simp [h]
attribute [irreducible] bi
theorem qym(z:Int)(n:Nat)(hz:z=n)(h:n<2^62):IntKind.i64.wrap ((BitVec.ofInt IntKind.i64.bits z&&&BitVec.ofInt IntKind.i64.bits 255).toNat:Int)=((n%256:Nat):Int):=by
 subst hz
 show IntKind.i64.wrap ((BitVec.ofInt 64 (n:Int)&&&BitVec.ofInt 64 255).toNat:Int)=_
 have e1:(BitVec.ofInt 64 (n:Int)).toNat=n:=by
  rw [BitVec.ofInt_natCast,BitVec.toNat_ofNat,Nat.mod_eq_of_lt (by omega)]
 have e2:(BitVec.ofInt 64 255).toNat=2^8-1:=by decide
 rw [BitVec.toNat_and,e1,e2,Nat.and_two_pow_sub_one_eq_mod,qeF .i64 _ (by simp only [wrS];omega)]
 rfl
theorem qpx(s t:ByteArray)(hs:s.size<1000000000000)(ht:t.size<1000000000000):Fun Tryz.prog 235 [.v (.string s),.v (.string t)] [.v (.string (nb (bv s*bv t)))] :=by
 refine qac (fun t=>false) mixed tOk Tryz.func235 rfl rfl ?_
 conv=>whnf
 generalize hm:s.size+t.size=m
 have hm':(s.size:Int)+(t.size:Int)=(m:Int):=by omega
 rw [hm']
 refine qak (by omega) ?_
 conv=>whnf
 refine qak (by simp only [maxLen];omega) ?_
 conv=>whnf
 refine qak (by omega) ?_
 conv=>whnf
 refine qah (fun t=>false) (fun i:Nat=>⟨fr 87 [(0,.d (.v (.string s))),(1,.d (.v (.string t))),(5,.own 0 0),(6,.d (i64 ((s.size:Int)-((i+1:Nat):Int))))], [.row 0 3 1 8 (bi (bd m (bv s%256^i*bv t)))]⟩) (fun i=>i<=s.size) (fun i=>s.size-i) 0 mixed tOk (Nat.zero_le _) ?_ ?_
 ·refine qag ⟨⟨rfl,rfl,rfl,rfl, ?_⟩,trivial⟩ ⟨rfl,rfl,trivial, ?_,trivial⟩
  ·show List.replicate _ _=_
   rw [Nat.pow_zero,Nat.mod_one,Nat.zero_mul,qmu,qyK];congr 1
  ·conv=>whnf
   omega
 ·intro i hi
  conv=>whnf
  refine qaf (fun h2=> ?_) (fun h2=> ?_)<;>conv=>whnf
  ·refine qak (by omega) ?_
   conv=>whnf
   generalize hT:bv s%256^i*bv t=T
   generalize hX:bv s/256^i%256=x
   have hx:x<256:=by rw [<-hX];exact Nat.mod_lt _ (by omega)
   refine qah (fun t=>false) (fun k:Nat=>⟨fr 87 [(0,.d (.v (.string s))),(1,.d (.v (.string t))),(5,.own 0 0),(6,.d (i64 ((s.size:Int)-((i+1:Nat):Int)))),(7,.d (i64 (N8.tC T x (bv t) i k:Nat))),(8,.d (i64 ((t.size:Int)-((k+1:Nat):Int))))], [.row 0 3 1 8 (bi (bd m (N8.tR T x (bv t) i k)))]⟩) (fun k=>k<=t.size) (fun k=>t.size-k) 0 mixed tOk (Nat.zero_le _) ?_ ?_
   ·refine qag ⟨⟨rfl,rfl,rfl,rfl, ?_⟩,trivial⟩ ⟨rfl,rfl,trivial,rfl, ?_, ?_,trivial⟩
    ·rw [N8.tR_zero]
    ·conv=>whnf
     rw [N8.tC_zero];rfl
    ·conv=>whnf
     omega
   ·intro k hk
    conv=>whnf
    have hcl:=N8.tC_lt (T:=T) (b:=bv t) (i:=i) (k:=k) hx
    have hrl:=qkQ (bd m (N8.tR T x (bv t) i k))
    rw [qb2] at hrl
    refine qaf (fun h3=> ?_) (fun h3=> ?_)<;>conv=>whnf
    ·refine qak (by omega) ?_
     conv=>whnf
     refine qak (by omega) ?_
     conv=>whnf
     refine qa2 (by omega) (qgr _) ?_
     conv=>whnf
     refine qa8 (i:=m-1-(i+k)) (r:=0) _ _ (qrN (quz (m:=m) (j:=i+k) (N8.tR T x (bv t) i k) (by omega))) (by omega) (by omega) (qgr _) rfl ?_
     conv=>whnf
     rw [N8.t_dig]
     conv=>whnf
     refine qak (by omega) ?_
     conv=>whnf
     rw [bt_end s i (by omega),hX]
     conv=>whnf
     refine qak (by omega) ?_
     conv=>whnf
     refine qak (by omega) ?_
     conv=>whnf
     rw [bt_end t k (by omega)]
     conv=>whnf
     refine qak (by omega) ?_
     conv=>whnf
     have ho:T/256^(i+k)%256<256:=Nat.mod_lt _ (by omega)
     have eo:(UInt8.ofNat (T/256^(i+k)%256)).toNat=T/256^(i+k)%256:=by simp only [UInt8.toNat_ofNat'];omega
     have hy:bv t/256^k%256<256:=Nat.mod_lt _ (by omega)
     obtain ⟨s1,s2⟩:=N8.t_step T x (bv t) i k
     have hxy:x*(bv t/256^k%256)<=255*255:=Nat.mul_le_mul (by omega) (by omega)
     rw [eo]
     generalize hy':bv t/256^k%256=y at*
     generalize T/256^(i+k)%256=o at*
     have exy:(x:Int)*(y:Int)=((x*y:Nat):Int):=by push_cast;rfl
     rw [exy]
     generalize x*y=xy at*
     conv=>whnf
     refine qak (by omega) ?_
     conv=>whnf
     refine qak (by omega) ?_
     conv=>whnf
     refine qak (by omega) ?_
     conv=>whnf
     refine qad (by kernel_rfl) ?_
     conv=>whnf
     refine qak (by omega) ?_
     conv=>whnf
     refine qak (by omega) ?_
     conv=>whnf
     refine qa2 (by omega) (qgr _) ?_
     conv=>whnf
     refine qaN (by omega) (qt6 _) rfl ?_
     conv=>whnf
     refine qak (by omega) ?_
     conv=>whnf
     refine qak (by omega) ?_
     conv=>whnf
     refine ⟨k+1,by omega,by omega,qag ⟨⟨rfl,rfl,rfl,rfl, ?_⟩,trivial⟩ ⟨rfl,rfl,trivial,rfl, ?_, ?_,trivial⟩⟩
     ·rw [s2, <-qug (m:=m) _ (by omega) (Nat.mod_lt _ (by omega)),quE]
      congr 1
      ·omega
      ·congr 2
       rw [qym _ (N8.tC T x (bv t) i k+(xy+o)) (by omega) (by omega)]
       simp only [UInt8.toNat_ofNat']
       omega
     ·conv=>whnf
      rw [qyQ, <-s1]
      omega
     ·conv=>whnf
      omega
    ·have hk2:k=t.size:=by omega
     have hbt:bv t<256^t.size:=qaV _
     have hTl:T<256^(i+t.size):=by
      rw [<-hT,Nat.pow_add]
      exact Nat.mul_lt_mul'' (Nat.mod_lt _ (Nat.pow_pos (by omega))) hbt
     have hend:=N8.t_end (a:=bv s) (b:=bv t) (i:=i) (n:=t.size) hbt
     simp only [hT,hX] at hend
     subst hk2
     refine qa2 (by omega) (qgr _) ?_
     conv=>whnf
     refine qa8 (i:=m-1-(i+t.size)) (r:=0) _ _ (qrN (quz (m:=m) (j:=i+t.size) (N8.tR T x (bv t) i t.size) (by omega))) (by omega) (by omega) (qgr _) rfl ?_
     conv=>whnf
     have e0:(UInt8.ofNat (0%256)).toNat=0:=rfl
     rw [N8.t_dig,Nat.div_eq_of_lt hTl,e0]
     conv=>whnf
     refine qak (by omega) ?_
     conv=>whnf
     refine qa2 (by omega) (qgr _) ?_
     conv=>whnf
     refine qaN (by omega) (qt6 _) rfl ?_
     conv=>whnf
     refine qak (by omega) ?_
     conv=>whnf
     refine ⟨i+1,by omega,by omega,qag ⟨⟨rfl,rfl,rfl,rfl, ?_⟩,trivial⟩ ⟨rfl,rfl,trivial, ?_,trivial⟩⟩
     ·rw [<-hend, <-qug (m:=m) _ (by omega) hcl,quE]
      congr 1
      ·omega
      ·congr 2
       simp only [UInt8.toNat_ofNat']
       omega
     ·conv=>whnf
      omega
  ·have hi2:i=s.size:=by omega
   have ha:bv s<256^s.size:=qaV _
   rw [hi2,Nat.mod_eq_of_lt ha]
   have hbl:=qkQ (bd m (bv s*bv t))
   rw [qb2] at hbl
   conv=>whnf
   refine qak (by simp only [maxLen];omega) ?_
   conv=>whnf
   refine qah (fun t=>false) (fun j:Nat=>⟨fr 87 [(5,.own 0 0),(9,.own 1 0),(10,.d (i64 (j:Int)))], [.row 0 3 1 8 (bi (bd m (bv s*bv t))),.row 0 5 1 1 (by8 ((bd m (bv s*bv t)).take j++List.replicate (m-j) 0))]⟩) (fun j=>j<=m) (fun j=>m-j) 0 mixed tOk (Nat.zero_le _) ?_ ?_
   ·refine qag ⟨⟨rfl,rfl,rfl,rfl,rfl⟩,⟨rfl,rfl,rfl,rfl, ?_⟩,trivial⟩ ⟨trivial,trivial,rfl,trivial⟩
    rw [hbl]
    show List.replicate _ _=_
    simp only [List.take_zero,List.nil_append,qjO]
    congr 1
   ·intro j hj
    conv=>whnf
    have hl8:=qcC ((bd m (bv s*bv t)).take j++List.replicate (m-j) 0)
    simp only [List.length_append,List.length_take,List.length_replicate,qb2,Nat.min_eq_left hj] at hl8
    refine qaf (fun h3=> ?_) (fun h3=> ?_)<;>conv=>whnf
    ·have hj2:j<m:=by omega
     obtain ⟨b,hb⟩: ∃b,(bd m (bv s*bv t))[j]? =some b:=⟨_,List.getElem?_eq_getElem (by rw [qb2];exact hj2)⟩
     refine qa2 (by omega) (qgr _) ?_
     conv=>whnf
     refine qa8 (i:=j) (r:=0) _ _ (qrN hb) (by omega) (by omega) (qgr _) rfl ?_
     conv=>whnf
     refine qa2 (by omega) (qch _) ?_
     conv=>whnf
     refine qaN (by omega) (qdp _) rfl ?_
     conv=>whnf
     refine qak (by omega) ?_
     conv=>whnf
     refine ⟨j+1,by omega,by omega,qag ⟨⟨rfl,rfl,rfl,rfl,rfl⟩,⟨rfl,rfl,rfl,rfl, ?_⟩,trivial⟩ ⟨trivial,trivial, ?_,trivial⟩⟩
     ·have e1:List.take (j+1) (bd m (bv s*bv t))=List.take j (bd m (bv s*bv t))++ [b] :=by
       rw [List.take_succ,hb];rfl
      have e2:m-j=(m-(j+1))+1:=by omega
      have e3:(((b.toNat:Int))%256)=(b.toNat:Int):=by have:=b.toNat_lt;omega
      rw [e1,e2,List.replicate_succ,Int.toNat_natCast,e3, <-qdm]
      congr 1
      rw [List.set_append_right _ _ (by rw [List.length_take,qb2];omega),List.length_take,qb2,Nat.min_eq_left hj]
      simp
     ·conv=>whnf
      omega
    ·have hj2:j=m:=by omega
     rw [hj2,Nat.sub_self,List.take_of_length_le (by rw [qb2];omega)]
     conv=>whnf
     refine qaB (qgc _) ?_
     conv=>whnf
     refine qaa rfl rfl (qdT _) ?_
     conv=>whnf
     refine ⟨?_,trivial⟩
     conv=>whnf
     have hbt:bv t<256^t.size:=qaV _
     have:=Nat.mul_lt_mul'' ha hbt
     rw [<-Nat.pow_add,hm] at this
     rw [List.replicate_zero,List.append_nil,qli,qqy,Nat.mod_eq_of_lt this]
theorem qhL(a b:Nat)(ha:(nb a).size<1000000000000)(hb:(nb b).size<1000000000000):Fun Tryz.prog 315 [.v (.string (nb a)),.v (.string (nb b))] [.v (.string (nb (a+b)))] :=by
 have:=qq6 (nb a) (nb b) ha hb
 rwa [qbo,qbo] at this
theorem qbt(a b:Nat)(ha:(nb a).size<1000000000000)(hb:(nb b).size<1000000000000)(h:b<=a):Fun Tryz.prog 317 [.v (.string (nb a)),.v (.string (nb b))] [.v (.string (nb (a-b)))] :=by
 have:=qq1 (nb a) (nb b) ha hb (by rw [qbo,qbo];exact h)
 rwa [qbo,qbo] at this
def tc(b i j:Nat):S:= .d (.v (.string (cond (Nat.blt j i) (nb (b*2^j)) ⟨#[]⟩)))
def tb(b i:Nat):List S:= [tc b i 0,tc b i 1,tc b i 2,tc b i 3,tc b i 4,tc b i 5,tc b i 6,tc b i 7]
theorem qFQ(s:ByteArray)(i:Nat)(h:i<s.size):(s.extract ((i:Nat):Int).toNat ((i:Int)+1).toNat).data.toList= [s.data.toList[i]'(by simpa using h)] :=by
 rw [Int.toNat_natCast,show ((i:Int)+1).toNat=i+1 by omega,ByteArray.data_extract,Array.toList_extract,List.extract_eq_take_drop]
 have hl:i<s.data.toList.length:=by simpa using h
 rw [show i+1-i=1 by omega,List.drop_eq_getElem_cons hl]
 rfl
theorem qs6(s:ByteArray)(i r:Nat)(h:i<s.size):bv (nb r++s.extract ((i:Nat):Int).toNat ((i:Int)+1).toNat)=r*256+(s.data.toList[i]'(by simpa using h)).toNat:=by
 unfold bv
 rw [ByteArray.data_append,Array.toList_append,qFQ s i h,qb8]
 show bvl (nbl r)*256+_=_
 rw [qct]
set_option maxHeartbeats 2000000 in
theorem qpn(s:ByteArray)(b:Nat)(hs:s.size<1000000000000)(hb:(nb b).size<400000000000)(h0:b≠0):Fun Tryz.prog 320 [.v (.string s),.v (.string (nb b))] [.v (.string (nb (bv s/b))),.v (.string (nb (bv s%b)))] :=by
 have hsz: ∀n,n<b*256->(nb n).size<500000000000:=by
  intro n hn
  rw [qdn] at hb ⊢
  have h1:=qaV (nbl b)
  rw [qct] at h1
  have:=qba (n:=n) (k:=(nbl b).length+1) (by rw [Nat.pow_succ];omega)
  omega
 have dbl: ∀n m,n<b*128->n+n=m->Fun Tryz.prog 315 [.v (.string (nb n)),.v (.string (nb n))] [.v (.string (nb m))] :=by
  intro n m h1 h2
  subst h2
  exact qhL n n (by have:=hsz n (by omega);omega) (by have:=hsz n (by omega);omega)
 refine qac (fun t=>false) mixed tOk Tryz.func320 rfl rfl ?_
 conv=>whnf
 refine qak (by omega) ?_
 conv=>whnf
 refine qah (fun t=>false) (fun i:Nat=>⟨fr 76 [(0,.d (.v (.string s))),(1,.d (.v (.string (nb b)))),(4,.d (.v (.string ⟨#[]⟩))),(5,.d (.v (.string ⟨#[]⟩))),(6,.ptr 0 0 0),(7,.d (i64 (i:Int)))], [.box 355 (tb b i)]⟩) (fun i=>1<=i/\i<=8) (fun i=>8-i) 1 mixed tOk ⟨by omega,by omega⟩ ?_ ?_
 ·refine qag ⟨⟨rfl, ?_⟩,trivial⟩ ⟨rfl,rfl,rfl,rfl,rfl,rfl,trivial⟩
  refine ⟨?_,rfl,rfl,rfl,rfl,rfl,rfl,rfl,trivial⟩
  conv=>whnf
  rw [Nat.pow_zero,Nat.mul_one];rfl
 ·rintro i ⟨i1,i2⟩
  rcases (show i=8\/i=1\/i=2\/i=3\/i=4\/i=5\/i=6\/i=7 by omega) with rfl|rfl|rfl|rfl|rfl|rfl|rfl|rfl
  ·conv=>whnf
   refine qaU (by omega) ?_
   conv=>whnf
   refine qak (by simp only [maxLen];omega) ?_
   conv=>whnf
   refine qah (fun t=>false) (fun x:Nat×List UInt8=>⟨fr 76 [(0,.d (.v (.string s))),(6,.ptr 0 0 0),(8,.own 1 0),(9,.d (.v (.string (nb (pre s x.1%b))))),(10,.d (i64 (x.1:Int)))], [.box 355 (tb b 8),.row 0 5 1 1 (by8 (x.2++List.replicate (s.size-x.1) 0))]⟩) (fun x=>x.1<=s.size/\x.2.length=x.1/\bvl x.2=pre s x.1/b) (fun x=>s.size-x.1) (0, []) mixed tOk ⟨Nat.zero_le _,rfl, ?_⟩ ?_ ?_
   ·rw [qfm,Nat.zero_div];rfl
   ·refine qag ⟨⟨rfl, ?_⟩,⟨rfl,rfl,rfl,rfl, ?_⟩,trivial⟩ ⟨rfl,rfl,trivial, ?_,rfl,trivial⟩
    ·exact ⟨rfl,rfl,rfl,rfl,rfl,rfl,rfl,rfl,trivial⟩
    ·show List.replicate _ _=_
     simp only [List.nil_append,qjO]
     congr 1
    ·conv=>whnf
     rw [qfm,Nat.zero_mod,qgg];rfl
   ·rintro ⟨i,Q⟩ ⟨q1,q2,q3⟩
    simp only at q1 q2 q3 ⊢
    conv=>whnf
    refine qaf (fun h3=> ?_) (fun h3=> ?_)<;>conv=>whnf
    ·refine qak (by omega) ?_
     conv=>whnf
     refine qak (by omega) ?_
     conv=>whnf
     have hr:pre s i%b<b:=Nat.mod_lt _ (by omega)
     have hr2:=hsz _ (show pre s i%b<b*256 by omega)
     obtain ⟨p1,p2⟩:=qew s i (by omega)
     have e1:=qs6 s i (pre s i%b) (by omega)
     have e2:(s.extract ((i:Nat):Int).toNat ((i:Int)+1).toNat).size=1:=by
      show (s.extract ((i:Nat):Int).toNat ((i:Int)+1).toNat).data.toList.length=1
      rw [qFQ s i (by omega)];rfl
     refine qak (by omega) ?_
     conv=>whnf
     refine qaa rfl rfl (qdT _) ?_
     rw [e1]
     have hx256:=(s.data.toList[i]'(by simpa using (show i<s.size by omega))).toNat_lt
     generalize (s.data.toList[i]'_).toNat=x at*
     have hR0:pre s i%b*256+x<b*256:=by omega
     generalize hR:pre s i%b*256+x=R0 at*
     conv=>whnf
     refine qah (fun t=>false) (fun z:Nat×Nat×Nat=>⟨fr 76 [(0,.d (.v (.string s))),(6,.ptr 0 0 0),(8,.own 1 0),(9,.d (.v (.string (nb z.2.2)))),(10,.d (i64 (i:Int))),(11,.d (i64 (z.2.1:Int))),(12,.d (i64 ((z.1:Int)-1)))], [.box 355 (tb b 8),.row 0 5 1 1 (by8 (Q++List.replicate (s.size-i) 0))]⟩) (fun z=>z.1<=8/\z.2.1<256/\z.2.1*b+z.2.2=R0/\z.2.2<b*2^z.1) (fun z=>z.1) (8,0,R0) mixed tOk ⟨Nat.le_refl _,by simp,by simp,by simp only;omega⟩ ?_ ?_
     ·refine qag ⟨⟨rfl, ?_⟩,⟨rfl,rfl,rfl,rfl,rfl⟩,trivial⟩ ⟨rfl,rfl,trivial,rfl,rfl,rfl,rfl,trivial⟩
      exact ⟨rfl,rfl,rfl,rfl,rfl,rfl,rfl,rfl,trivial⟩
     ·rintro ⟨c,d,r⟩ ⟨c1,c2,c3,c4⟩
      simp only at c1 c2 c3 c4 ⊢
      rcases (show c=0\/c=1\/c=2\/c=3\/c=4\/c=5\/c=6\/c=7\/c=8 by omega) with rfl|rfl|rfl|rfl|rfl|rfl|rfl|rfl|rfl
      ·conv=>whnf
       refine qaU (by omega) ?_
       conv=>whnf
       have hl8:=qcC (Q++List.replicate (s.size-i) 0)
       rw [List.length_append,List.length_replicate,q2] at hl8
       refine qa2 (by omega) (qch _) ?_
       conv=>whnf
       refine qaN (by omega) (qdp _) rfl ?_
       conv=>whnf
       refine qak (by omega) ?_
       conv=>whnf
       have rl:r<b:=by simpa using c4
       have hpre:pre s (i+1)=b*(pre s i/b*256+d)+r:=by
        have h9:=Nat.div_add_mod (pre s i) b
        rw [p2,Nat.mul_add, <-Nat.mul_assoc,Nat.mul_comm b d]
        omega
       have hdv:pre s (i+1)/b=pre s i/b*256+d:=by
        rw [hpre,Nat.mul_add_div (by omega),Nat.div_eq_of_lt rl];rfl
       have hmd:pre s (i+1)%b=r:=by
        rw [hpre,Nat.mul_add_mod,Nat.mod_eq_of_lt rl]
       have hd8:(UInt8.ofNat d).toNat=d:=by simp only [UInt8.toNat_ofNat'];omega
       refine ⟨(i+1,Q++ [UInt8.ofNat d]),⟨by simp only;omega,by simp [q2], ?_⟩,by simp only;omega,qag ⟨⟨rfl, ?_⟩,⟨rfl,rfl,rfl,rfl, ?_⟩,trivial⟩ ⟨rfl,rfl,trivial, ?_, ?_,trivial⟩⟩
       ·simp only
        rw [qb8,q3,hd8,hdv]
       ·exact ⟨rfl,rfl,rfl,rfl,rfl,rfl,rfl,rfl,trivial⟩
       ·have e8:s.size-i=(s.size-(i+1))+1:=by omega
        have e9:((d:Int))%256=((UInt8.ofNat d).toNat:Int):=by rw [hd8];omega
        simp only
        rw [e8,List.replicate_succ,Int.toNat_natCast,e9, <-qdm]
        congr 1
        rw [List.set_append_right _ _ (by omega),q2]
        simp
       ·conv=>whnf
        rw [hmd]
       ·conv=>whnf
        omega
      ·conv=>whnf
       refine qaI (by omega) ?_
       conv=>whnf
       refine qak (by omega) ?_
       conv=>whnf
       refine qaa rfl rfl (qdX r (b*2^0)) ?_
       conv=>whnf
       refine qaf (fun g=> ?_) (fun g=> ?_)
       ·have ge:b*2^0<=r:=by unfold qcE at g;split at g<;>omega
        conv=>whnf
        refine qak (by omega) ?_
        conv=>whnf
        refine qaa rfl rfl (qbt r (b*2^0) (by have:=hsz r (by omega);omega) (by have:=hsz (b*2^0) (by omega);omega) ge) ?_
        conv=>whnf
        have esh:(1:Int)*2^min ((((1:Nat):Int)-1)%18446744073709551616).toNat IntKind.i64.bits=((2^0:Nat):Int):=by decide
        rw [esh]
        refine qcZ (by omega) (by omega) ?_
        conv=>whnf
        refine qak (by omega) ?_
        conv=>whnf
        refine qak (by omega) ?_
        conv=>whnf
        have c5:(d+2^0)*b+(r-b*2^0)=R0:=by rw [Nat.add_mul,Nat.mul_comm (2^0) b];omega
        have c6:d+2^0<256:=by
         refine Classical.byContradiction fun hn=> ?_
         have:=Nat.mul_le_mul_right b (show 256<=d+2^0 by omega)
         omega
        refine ⟨(0,d+2^0,r-b*2^0),⟨by simp only;omega,c6,c5,by simp only;omega⟩,by simp only;omega,qag ⟨⟨rfl, ?_⟩,⟨rfl,rfl,rfl,rfl,rfl⟩,trivial⟩ ⟨rfl,rfl,trivial,rfl,rfl, ?_, ?_,trivial⟩⟩
        ·exact ⟨rfl,rfl,rfl,rfl,rfl,rfl,rfl,rfl,trivial⟩
        ·conv=>whnf
         exact (Int.natCast_add d (2^0)).symm
        ·conv=>whnf
         omega
       ·have lt:r<b*2^0:=by unfold qcE at g;split at g<;>omega
        conv=>whnf
        refine qak (by omega) ?_
        conv=>whnf
        refine ⟨(0,d,r),⟨by simp only;omega,c2,c3,lt⟩,by simp only;omega,qag ⟨⟨rfl, ?_⟩,⟨rfl,rfl,rfl,rfl,rfl⟩,trivial⟩ ⟨rfl,rfl,trivial,rfl,rfl,rfl, ?_,trivial⟩⟩
        ·exact ⟨rfl,rfl,rfl,rfl,rfl,rfl,rfl,rfl,trivial⟩
        ·conv=>whnf
         omega
      ·conv=>whnf
       refine qaI (by omega) ?_
       conv=>whnf
       refine qak (by omega) ?_
       conv=>whnf
       refine qaa rfl rfl (qdX r (b*2^1)) ?_
       conv=>whnf
       refine qaf (fun g=> ?_) (fun g=> ?_)
       ·have ge:b*2^1<=r:=by unfold qcE at g;split at g<;>omega
        conv=>whnf
        refine qak (by omega) ?_
        conv=>whnf
        refine qaa rfl rfl (qbt r (b*2^1) (by have:=hsz r (by omega);omega) (by have:=hsz (b*2^1) (by omega);omega) ge) ?_
        conv=>whnf
        have esh:(1:Int)*2^min ((((2:Nat):Int)-1)%18446744073709551616).toNat IntKind.i64.bits=((2^1:Nat):Int):=by decide
        rw [esh]
        refine qcZ (by omega) (by omega) ?_
        conv=>whnf
        refine qak (by omega) ?_
        conv=>whnf
        refine qak (by omega) ?_
        conv=>whnf
        have c5:(d+2^1)*b+(r-b*2^1)=R0:=by rw [Nat.add_mul,Nat.mul_comm (2^1) b];omega
        have c6:d+2^1<256:=by
         refine Classical.byContradiction fun hn=> ?_
         have:=Nat.mul_le_mul_right b (show 256<=d+2^1 by omega)
         omega
        refine ⟨(1,d+2^1,r-b*2^1),⟨by simp only;omega,c6,c5,by simp only;omega⟩,by simp only;omega,qag ⟨⟨rfl, ?_⟩,⟨rfl,rfl,rfl,rfl,rfl⟩,trivial⟩ ⟨rfl,rfl,trivial,rfl,rfl, ?_, ?_,trivial⟩⟩
        ·exact ⟨rfl,rfl,rfl,rfl,rfl,rfl,rfl,rfl,trivial⟩
        ·conv=>whnf
         exact (Int.natCast_add d (2^1)).symm
        ·conv=>whnf
         omega
       ·have lt:r<b*2^1:=by unfold qcE at g;split at g<;>omega
        conv=>whnf
        refine qak (by omega) ?_
        conv=>whnf
        refine ⟨(1,d,r),⟨by simp only;omega,c2,c3,lt⟩,by simp only;omega,qag ⟨⟨rfl, ?_⟩,⟨rfl,rfl,rfl,rfl,rfl⟩,trivial⟩ ⟨rfl,rfl,trivial,rfl,rfl,rfl, ?_,trivial⟩⟩
        ·exact ⟨rfl,rfl,rfl,rfl,rfl,rfl,rfl,rfl,trivial⟩
        ·conv=>whnf
         omega
      ·conv=>whnf
       refine qaI (by omega) ?_
       conv=>whnf
       refine qak (by omega) ?_
       conv=>whnf
       refine qaa rfl rfl (qdX r (b*2^2)) ?_
       conv=>whnf
       refine qaf (fun g=> ?_) (fun g=> ?_)
       ·have ge:b*2^2<=r:=by unfold qcE at g;split at g<;>omega
        conv=>whnf
        refine qak (by omega) ?_
        conv=>whnf
        refine qaa rfl rfl (qbt r (b*2^2) (by have:=hsz r (by omega);omega) (by have:=hsz (b*2^2) (by omega);omega) ge) ?_
        conv=>whnf
        have esh:(1:Int)*2^min ((((3:Nat):Int)-1)%18446744073709551616).toNat IntKind.i64.bits=((2^2:Nat):Int):=by decide
        rw [esh]
        refine qcZ (by omega) (by omega) ?_
        conv=>whnf
        refine qak (by omega) ?_
        conv=>whnf
        refine qak (by omega) ?_
        conv=>whnf
        have c5:(d+2^2)*b+(r-b*2^2)=R0:=by rw [Nat.add_mul,Nat.mul_comm (2^2) b];omega
        have c6:d+2^2<256:=by
         refine Classical.byContradiction fun hn=> ?_
         have:=Nat.mul_le_mul_right b (show 256<=d+2^2 by omega)
         omega
        refine ⟨(2,d+2^2,r-b*2^2),⟨by simp only;omega,c6,c5,by simp only;omega⟩,by simp only;omega,qag ⟨⟨rfl, ?_⟩,⟨rfl,rfl,rfl,rfl,rfl⟩,trivial⟩ ⟨rfl,rfl,trivial,rfl,rfl, ?_, ?_,trivial⟩⟩
        ·exact ⟨rfl,rfl,rfl,rfl,rfl,rfl,rfl,rfl,trivial⟩
        ·conv=>whnf
         exact (Int.natCast_add d (2^2)).symm
        ·conv=>whnf
         omega
       ·have lt:r<b*2^2:=by unfold qcE at g;split at g<;>omega
        conv=>whnf
        refine qak (by omega) ?_
        conv=>whnf
        refine ⟨(2,d,r),⟨by simp only;omega,c2,c3,lt⟩,by simp only;omega,qag ⟨⟨rfl, ?_⟩,⟨rfl,rfl,rfl,rfl,rfl⟩,trivial⟩ ⟨rfl,rfl,trivial,rfl,rfl,rfl, ?_,trivial⟩⟩
        ·exact ⟨rfl,rfl,rfl,rfl,rfl,rfl,rfl,rfl,trivial⟩
        ·conv=>whnf
         omega
      ·conv=>whnf
       refine qaI (by omega) ?_
       conv=>whnf
       refine qak (by omega) ?_
       conv=>whnf
       refine qaa rfl rfl (qdX r (b*2^3)) ?_
       conv=>whnf
       refine qaf (fun g=> ?_) (fun g=> ?_)
       ·have ge:b*2^3<=r:=by unfold qcE at g;split at g<;>omega
        conv=>whnf
        refine qak (by omega) ?_
        conv=>whnf
        refine qaa rfl rfl (qbt r (b*2^3) (by have:=hsz r (by omega);omega) (by have:=hsz (b*2^3) (by omega);omega) ge) ?_
        conv=>whnf
        have esh:(1:Int)*2^min ((((4:Nat):Int)-1)%18446744073709551616).toNat IntKind.i64.bits=((2^3:Nat):Int):=by decide
        rw [esh]
        refine qcZ (by omega) (by omega) ?_
        conv=>whnf
        refine qak (by omega) ?_
        conv=>whnf
        refine qak (by omega) ?_
        conv=>whnf
        have c5:(d+2^3)*b+(r-b*2^3)=R0:=by rw [Nat.add_mul,Nat.mul_comm (2^3) b];omega
        have c6:d+2^3<256:=by
         refine Classical.byContradiction fun hn=> ?_
         have:=Nat.mul_le_mul_right b (show 256<=d+2^3 by omega)
         omega
        refine ⟨(3,d+2^3,r-b*2^3),⟨by simp only;omega,c6,c5,by simp only;omega⟩,by simp only;omega,qag ⟨⟨rfl, ?_⟩,⟨rfl,rfl,rfl,rfl,rfl⟩,trivial⟩ ⟨rfl,rfl,trivial,rfl,rfl, ?_, ?_,trivial⟩⟩
        ·exact ⟨rfl,rfl,rfl,rfl,rfl,rfl,rfl,rfl,trivial⟩
        ·conv=>whnf
         exact (Int.natCast_add d (2^3)).symm
        ·conv=>whnf
         omega
       ·have lt:r<b*2^3:=by unfold qcE at g;split at g<;>omega
        conv=>whnf
        refine qak (by omega) ?_
        conv=>whnf
        refine ⟨(3,d,r),⟨by simp only;omega,c2,c3,lt⟩,by simp only;omega,qag ⟨⟨rfl, ?_⟩,⟨rfl,rfl,rfl,rfl,rfl⟩,trivial⟩ ⟨rfl,rfl,trivial,rfl,rfl,rfl, ?_,trivial⟩⟩
        ·exact ⟨rfl,rfl,rfl,rfl,rfl,rfl,rfl,rfl,trivial⟩
        ·conv=>whnf
         omega
      ·conv=>whnf
       refine qaI (by omega) ?_
       conv=>whnf
       refine qak (by omega) ?_
       conv=>whnf
       refine qaa rfl rfl (qdX r (b*2^4)) ?_
       conv=>whnf
       refine qaf (fun g=> ?_) (fun g=> ?_)
       ·have ge:b*2^4<=r:=by unfold qcE at g;split at g<;>omega
        conv=>whnf
        refine qak (by omega) ?_
        conv=>whnf
        refine qaa rfl rfl (qbt r (b*2^4) (by have:=hsz r (by omega);omega) (by have:=hsz (b*2^4) (by omega);omega) ge) ?_
        conv=>whnf
        have esh:(1:Int)*2^min ((((5:Nat):Int)-1)%18446744073709551616).toNat IntKind.i64.bits=((2^4:Nat):Int):=by decide
        rw [esh]
        refine qcZ (by omega) (by omega) ?_
        conv=>whnf
        refine qak (by omega) ?_
        conv=>whnf
        refine qak (by omega) ?_
        conv=>whnf
        have c5:(d+2^4)*b+(r-b*2^4)=R0:=by rw [Nat.add_mul,Nat.mul_comm (2^4) b];omega
        have c6:d+2^4<256:=by
         refine Classical.byContradiction fun hn=> ?_
         have:=Nat.mul_le_mul_right b (show 256<=d+2^4 by omega)
         omega
        refine ⟨(4,d+2^4,r-b*2^4),⟨by simp only;omega,c6,c5,by simp only;omega⟩,by simp only;omega,qag ⟨⟨rfl, ?_⟩,⟨rfl,rfl,rfl,rfl,rfl⟩,trivial⟩ ⟨rfl,rfl,trivial,rfl,rfl, ?_, ?_,trivial⟩⟩
        ·exact ⟨rfl,rfl,rfl,rfl,rfl,rfl,rfl,rfl,trivial⟩
        ·conv=>whnf
         exact (Int.natCast_add d (2^4)).symm
        ·conv=>whnf
         omega
       ·have lt:r<b*2^4:=by unfold qcE at g;split at g<;>omega
        conv=>whnf
        refine qak (by omega) ?_
        conv=>whnf
        refine ⟨(4,d,r),⟨by simp only;omega,c2,c3,lt⟩,by simp only;omega,qag ⟨⟨rfl, ?_⟩,⟨rfl,rfl,rfl,rfl,rfl⟩,trivial⟩ ⟨rfl,rfl,trivial,rfl,rfl,rfl, ?_,trivial⟩⟩
        ·exact ⟨rfl,rfl,rfl,rfl,rfl,rfl,rfl,rfl,trivial⟩
        ·conv=>whnf
         omega
      ·conv=>whnf
       refine qaI (by omega) ?_
       conv=>whnf
       refine qak (by omega) ?_
       conv=>whnf
       refine qaa rfl rfl (qdX r (b*2^5)) ?_
       conv=>whnf
       refine qaf (fun g=> ?_) (fun g=> ?_)
       ·have ge:b*2^5<=r:=by unfold qcE at g;split at g<;>omega
        conv=>whnf
        refine qak (by omega) ?_
        conv=>whnf
        refine qaa rfl rfl (qbt r (b*2^5) (by have:=hsz r (by omega);omega) (by have:=hsz (b*2^5) (by omega);omega) ge) ?_
        conv=>whnf
        have esh:(1:Int)*2^min ((((6:Nat):Int)-1)%18446744073709551616).toNat IntKind.i64.bits=((2^5:Nat):Int):=by decide
        rw [esh]
        refine qcZ (by omega) (by omega) ?_
        conv=>whnf
        refine qak (by omega) ?_
        conv=>whnf
        refine qak (by omega) ?_
        conv=>whnf
        have c5:(d+2^5)*b+(r-b*2^5)=R0:=by rw [Nat.add_mul,Nat.mul_comm (2^5) b];omega
        have c6:d+2^5<256:=by
         refine Classical.byContradiction fun hn=> ?_
         have:=Nat.mul_le_mul_right b (show 256<=d+2^5 by omega)
         omega
        refine ⟨(5,d+2^5,r-b*2^5),⟨by simp only;omega,c6,c5,by simp only;omega⟩,by simp only;omega,qag ⟨⟨rfl, ?_⟩,⟨rfl,rfl,rfl,rfl,rfl⟩,trivial⟩ ⟨rfl,rfl,trivial,rfl,rfl, ?_, ?_,trivial⟩⟩
        ·exact ⟨rfl,rfl,rfl,rfl,rfl,rfl,rfl,rfl,trivial⟩
        ·conv=>whnf
         exact (Int.natCast_add d (2^5)).symm
        ·conv=>whnf
         omega
       ·have lt:r<b*2^5:=by unfold qcE at g;split at g<;>omega
        conv=>whnf
        refine qak (by omega) ?_
        conv=>whnf
        refine ⟨(5,d,r),⟨by simp only;omega,c2,c3,lt⟩,by simp only;omega,qag ⟨⟨rfl, ?_⟩,⟨rfl,rfl,rfl,rfl,rfl⟩,trivial⟩ ⟨rfl,rfl,trivial,rfl,rfl,rfl, ?_,trivial⟩⟩
        ·exact ⟨rfl,rfl,rfl,rfl,rfl,rfl,rfl,rfl,trivial⟩
        ·conv=>whnf
         omega
      ·conv=>whnf
       refine qaI (by omega) ?_
       conv=>whnf
       refine qak (by omega) ?_
       conv=>whnf
       refine qaa rfl rfl (qdX r (b*2^6)) ?_
       conv=>whnf
       refine qaf (fun g=> ?_) (fun g=> ?_)
       ·have ge:b*2^6<=r:=by unfold qcE at g;split at g<;>omega
        conv=>whnf
        refine qak (by omega) ?_
        conv=>whnf
        refine qaa rfl rfl (qbt r (b*2^6) (by have:=hsz r (by omega);omega) (by have:=hsz (b*2^6) (by omega);omega) ge) ?_
        conv=>whnf
        have esh:(1:Int)*2^min ((((7:Nat):Int)-1)%18446744073709551616).toNat IntKind.i64.bits=((2^6:Nat):Int):=by decide
        rw [esh]
        refine qcZ (by omega) (by omega) ?_
        conv=>whnf
        refine qak (by omega) ?_
        conv=>whnf
        refine qak (by omega) ?_
        conv=>whnf
        have c5:(d+2^6)*b+(r-b*2^6)=R0:=by rw [Nat.add_mul,Nat.mul_comm (2^6) b];omega
        have c6:d+2^6<256:=by
         refine Classical.byContradiction fun hn=> ?_
         have:=Nat.mul_le_mul_right b (show 256<=d+2^6 by omega)
         omega
        refine ⟨(6,d+2^6,r-b*2^6),⟨by simp only;omega,c6,c5,by simp only;omega⟩,by simp only;omega,qag ⟨⟨rfl, ?_⟩,⟨rfl,rfl,rfl,rfl,rfl⟩,trivial⟩ ⟨rfl,rfl,trivial,rfl,rfl, ?_, ?_,trivial⟩⟩
        ·exact ⟨rfl,rfl,rfl,rfl,rfl,rfl,rfl,rfl,trivial⟩
        ·conv=>whnf
         exact (Int.natCast_add d (2^6)).symm
        ·conv=>whnf
         omega
       ·have lt:r<b*2^6:=by unfold qcE at g;split at g<;>omega
        conv=>whnf
        refine qak (by omega) ?_
        conv=>whnf
        refine ⟨(6,d,r),⟨by simp only;omega,c2,c3,lt⟩,by simp only;omega,qag ⟨⟨rfl, ?_⟩,⟨rfl,rfl,rfl,rfl,rfl⟩,trivial⟩ ⟨rfl,rfl,trivial,rfl,rfl,rfl, ?_,trivial⟩⟩
        ·exact ⟨rfl,rfl,rfl,rfl,rfl,rfl,rfl,rfl,trivial⟩
        ·conv=>whnf
         omega
      ·conv=>whnf
       refine qaI (by omega) ?_
       conv=>whnf
       refine qak (by omega) ?_
       conv=>whnf
       refine qaa rfl rfl (qdX r (b*2^7)) ?_
       conv=>whnf
       refine qaf (fun g=> ?_) (fun g=> ?_)
       ·have ge:b*2^7<=r:=by unfold qcE at g;split at g<;>omega
        conv=>whnf
        refine qak (by omega) ?_
        conv=>whnf
        refine qaa rfl rfl (qbt r (b*2^7) (by have:=hsz r (by omega);omega) (by have:=hsz (b*2^7) (by omega);omega) ge) ?_
        conv=>whnf
        have esh:(1:Int)*2^min ((((8:Nat):Int)-1)%18446744073709551616).toNat IntKind.i64.bits=((2^7:Nat):Int):=by decide
        rw [esh]
        refine qcZ (by omega) (by omega) ?_
        conv=>whnf
        refine qak (by omega) ?_
        conv=>whnf
        refine qak (by omega) ?_
        conv=>whnf
        have c5:(d+2^7)*b+(r-b*2^7)=R0:=by rw [Nat.add_mul,Nat.mul_comm (2^7) b];omega
        have c6:d+2^7<256:=by
         refine Classical.byContradiction fun hn=> ?_
         have:=Nat.mul_le_mul_right b (show 256<=d+2^7 by omega)
         omega
        refine ⟨(7,d+2^7,r-b*2^7),⟨by simp only;omega,c6,c5,by simp only;omega⟩,by simp only;omega,qag ⟨⟨rfl, ?_⟩,⟨rfl,rfl,rfl,rfl,rfl⟩,trivial⟩ ⟨rfl,rfl,trivial,rfl,rfl, ?_, ?_,trivial⟩⟩
        ·exact ⟨rfl,rfl,rfl,rfl,rfl,rfl,rfl,rfl,trivial⟩
        ·conv=>whnf
         exact (Int.natCast_add d (2^7)).symm
        ·conv=>whnf
         omega
       ·have lt:r<b*2^7:=by unfold qcE at g;split at g<;>omega
        conv=>whnf
        refine qak (by omega) ?_
        conv=>whnf
        refine ⟨(7,d,r),⟨by simp only;omega,c2,c3,lt⟩,by simp only;omega,qag ⟨⟨rfl, ?_⟩,⟨rfl,rfl,rfl,rfl,rfl⟩,trivial⟩ ⟨rfl,rfl,trivial,rfl,rfl,rfl, ?_,trivial⟩⟩
        ·exact ⟨rfl,rfl,rfl,rfl,rfl,rfl,rfl,rfl,trivial⟩
        ·conv=>whnf
         omega
    ·have hi2:i=s.size:=by omega
     refine qaB (qgc _) ?_
     conv=>whnf
     refine qaa rfl rfl (qdT _) ?_
     conv=>whnf
     refine ⟨?_, ?_,trivial⟩
     ·conv=>whnf
      rw [hi2,Nat.sub_self,List.replicate_zero,List.append_nil,qli,q3,hi2,qe1]
     ·conv=>whnf
      rw [hi2,qe1]
  ·conv=>whnf
   refine qaI (by omega) ?_
   conv=>whnf
   refine qak (by omega) ?_
   conv=>whnf
   refine qak (by omega) ?_
   conv=>whnf
   refine qak (by omega) ?_
   conv=>whnf
   refine qak (by omega) ?_
   conv=>whnf
   refine qab (dbl (b*2^0) (b*2^1) (by omega) (by omega)) ?_
   conv=>whnf
   refine qak (by omega) ?_
   conv=>whnf
   refine qad (by kernel_rfl) ?_
   conv=>whnf
   refine qak (by omega) ?_
   conv=>whnf
   refine ⟨2,⟨by omega,by omega⟩,by omega,qag ⟨⟨rfl, ?_⟩,trivial⟩ ⟨rfl,rfl,rfl,rfl,rfl,rfl,trivial⟩⟩
   exact ⟨rfl,rfl,rfl,rfl,rfl,rfl,rfl,rfl,trivial⟩
  ·conv=>whnf
   refine qaI (by omega) ?_
   conv=>whnf
   refine qak (by omega) ?_
   conv=>whnf
   refine qak (by omega) ?_
   conv=>whnf
   refine qak (by omega) ?_
   conv=>whnf
   refine qak (by omega) ?_
   conv=>whnf
   refine qab (dbl (b*2^1) (b*2^2) (by omega) (by omega)) ?_
   conv=>whnf
   refine qak (by omega) ?_
   conv=>whnf
   refine qad (by kernel_rfl) ?_
   conv=>whnf
   refine qak (by omega) ?_
   conv=>whnf
   refine ⟨3,⟨by omega,by omega⟩,by omega,qag ⟨⟨rfl, ?_⟩,trivial⟩ ⟨rfl,rfl,rfl,rfl,rfl,rfl,trivial⟩⟩
   exact ⟨rfl,rfl,rfl,rfl,rfl,rfl,rfl,rfl,trivial⟩
  ·conv=>whnf
   refine qaI (by omega) ?_
   conv=>whnf
   refine qak (by omega) ?_
   conv=>whnf
   refine qak (by omega) ?_
   conv=>whnf
   refine qak (by omega) ?_
   conv=>whnf
   refine qak (by omega) ?_
   conv=>whnf
   refine qab (dbl (b*2^2) (b*2^3) (by omega) (by omega)) ?_
   conv=>whnf
   refine qak (by omega) ?_
   conv=>whnf
   refine qad (by kernel_rfl) ?_
   conv=>whnf
   refine qak (by omega) ?_
   conv=>whnf
   refine ⟨4,⟨by omega,by omega⟩,by omega,qag ⟨⟨rfl, ?_⟩,trivial⟩ ⟨rfl,rfl,rfl,rfl,rfl,rfl,trivial⟩⟩
   exact ⟨rfl,rfl,rfl,rfl,rfl,rfl,rfl,rfl,trivial⟩
  ·conv=>whnf
   refine qaI (by omega) ?_
   conv=>whnf
   refine qak (by omega) ?_
   conv=>whnf
   refine qak (by omega) ?_
   conv=>whnf
   refine qak (by omega) ?_
   conv=>whnf
   refine qak (by omega) ?_
   conv=>whnf
   refine qab (dbl (b*2^3) (b*2^4) (by omega) (by omega)) ?_
   conv=>whnf
   refine qak (by omega) ?_
   conv=>whnf
   refine qad (by kernel_rfl) ?_
   conv=>whnf
   refine qak (by omega) ?_
   conv=>whnf
   refine ⟨5,⟨by omega,by omega⟩,by omega,qag ⟨⟨rfl, ?_⟩,trivial⟩ ⟨rfl,rfl,rfl,rfl,rfl,rfl,trivial⟩⟩
   exact ⟨rfl,rfl,rfl,rfl,rfl,rfl,rfl,rfl,trivial⟩
  ·conv=>whnf
   refine qaI (by omega) ?_
   conv=>whnf
   refine qak (by omega) ?_
   conv=>whnf
   refine qak (by omega) ?_
   conv=>whnf
   refine qak (by omega) ?_
   conv=>whnf
   refine qak (by omega) ?_
   conv=>whnf
   refine qab (dbl (b*2^4) (b*2^5) (by omega) (by omega)) ?_
   conv=>whnf
   refine qak (by omega) ?_
   conv=>whnf
   refine qad (by kernel_rfl) ?_
   conv=>whnf
   refine qak (by omega) ?_
   conv=>whnf
   refine ⟨6,⟨by omega,by omega⟩,by omega,qag ⟨⟨rfl, ?_⟩,trivial⟩ ⟨rfl,rfl,rfl,rfl,rfl,rfl,trivial⟩⟩
   exact ⟨rfl,rfl,rfl,rfl,rfl,rfl,rfl,rfl,trivial⟩
  ·conv=>whnf
   refine qaI (by omega) ?_
   conv=>whnf
   refine qak (by omega) ?_
   conv=>whnf
   refine qak (by omega) ?_
   conv=>whnf
   refine qak (by omega) ?_
   conv=>whnf
   refine qak (by omega) ?_
   conv=>whnf
   refine qab (dbl (b*2^5) (b*2^6) (by omega) (by omega)) ?_
   conv=>whnf
   refine qak (by omega) ?_
   conv=>whnf
   refine qad (by kernel_rfl) ?_
   conv=>whnf
   refine qak (by omega) ?_
   conv=>whnf
   refine ⟨7,⟨by omega,by omega⟩,by omega,qag ⟨⟨rfl, ?_⟩,trivial⟩ ⟨rfl,rfl,rfl,rfl,rfl,rfl,trivial⟩⟩
   exact ⟨rfl,rfl,rfl,rfl,rfl,rfl,rfl,rfl,trivial⟩
  ·conv=>whnf
   refine qaI (by omega) ?_
   conv=>whnf
   refine qak (by omega) ?_
   conv=>whnf
   refine qak (by omega) ?_
   conv=>whnf
   refine qak (by omega) ?_
   conv=>whnf
   refine qak (by omega) ?_
   conv=>whnf
   refine qab (dbl (b*2^6) (b*2^7) (by omega) (by omega)) ?_
   conv=>whnf
   refine qak (by omega) ?_
   conv=>whnf
   refine qad (by kernel_rfl) ?_
   conv=>whnf
   refine qak (by omega) ?_
   conv=>whnf
   refine ⟨8,⟨by omega,by omega⟩,by omega,qag ⟨⟨rfl, ?_⟩,trivial⟩ ⟨rfl,rfl,rfl,rfl,rfl,rfl,trivial⟩⟩
   exact ⟨rfl,rfl,rfl,rfl,rfl,rfl,rfl,rfl,trivial⟩
end Go.Nv
end
