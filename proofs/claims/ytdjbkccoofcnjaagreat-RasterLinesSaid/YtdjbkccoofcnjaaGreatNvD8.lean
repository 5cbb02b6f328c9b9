import Derived.Test.YtdjbkccoofcnjaaGreatNvD7
import Derived.Test.YtdjbkccoofcnjaaGreatNvN5
set_option linter.all false
set_option maxRecDepth 100000
section
namespace Go.Nv
open Go.Proofs Nw
def bi(l:List UInt8):List D:=l.map fun b=> .v (.int .i64 (b.toNat:Int))
theorem bi_length(l:List UInt8):(bi l).length=l.length:=by simp [bi]
theorem bi_uni(l:List UInt8):Uni 1 (bi l):=by
 intro x hx
 simp only [bi,List.mem_map] at hx
 obtain ⟨n,_,rfl⟩:=hx
 rfl
theorem bi_val(l:List UInt8): ∀x∈bi l,∃u,x= .v u:=by
 unfold bi;intro x hx;simp only [List.mem_map] at hx;obtain ⟨n,_,rfl⟩:=hx;exact ⟨_,rfl⟩
theorem bi_rep(m:Nat):bi (List.replicate m 0)=List.replicate m (.v (.int .i64 0)):=by unfold bi;simp
theorem bi_set(l:List UInt8)(i:Nat)(x:UInt8):bi (l.set i x)=(bi l).set i (.v (.int .i64 (x.toNat:Int))):=by unfold bi;simp [List.map_set]
theorem bi_get{l:List UInt8}{i:Nat}{x:UInt8}(h:l[i]? =some x):(bi l)[i]? =some (.v (.int .i64 (x.toNat:Int))):=by unfold bi;simp [h]
attribute [irreducible] bi
theorem and255(z:Int)(n:Nat)(hz:z=n)(h:n<2^62):IntKind.i64.wrap ((BitVec.ofInt IntKind.i64.bits z&&&BitVec.ofInt IntKind.i64.bits 255).toNat:Int)=((n%256:Nat):Int):=by
 subst hz
 show IntKind.i64.wrap ((BitVec.ofInt 64 (n:Int)&&&BitVec.ofInt 64 255).toNat:Int)=_
 have e1:(BitVec.ofInt 64 (n:Int)).toNat=n:=by
  rw [BitVec.ofInt_natCast,BitVec.toNat_ofNat,Nat.mod_eq_of_lt (by omega)]
 have e2:(BitVec.ofInt 64 255).toNat=2^8-1:=by decide
 rw [BitVec.toNat_and,e1,e2,Nat.and_two_pow_sub_one_eq_mod,wr_eq .i64 _ (by simp only [wrS];omega)]
 rfl
theorem rmulMag_c(s t:ByteArray)(hs:s.size<1000000000000)(ht:t.size<1000000000000):Fun Tryz.prog 260 [.v (.string s),.v (.string t)] [.v (.string (nb (bv s*bv t)))] :=by
 refine fun_of_go (fun t=>false) mixed tOk Tryz.func260 rfl rfl ?_
 conv=>whnf
 generalize hm:s.size+t.size=m
 have hm':(s.size:Int)+(t.size:Int)=(m:Int):=by omega
 rw [hm']
 refine sd_d (by omega) ?_
 conv=>whnf
 refine sd_d (by simp only [maxLen];omega) ?_
 conv=>whnf
 refine sd_d (by omega) ?_
 conv=>whnf
 refine loop_intro (fun t=>false) (fun i:Nat=>⟨fr 87 [(0,.d (.v (.string s))),(1,.d (.v (.string t))),(5,.own 0 0),(6,.d (i64 ((s.size:Int)-((i+1:Nat):Int))))], [.row 0 3 1 8 (bi (bd m (bv s%256^i*bv t)))]⟩) (fun i=>i≤s.size) (fun i=>s.size-i) 0 mixed tOk (Nat.zero_le _) ?_ ?_
 ·refine weak_r ⟨⟨rfl,rfl,rfl,rfl, ?_⟩,trivial⟩ ⟨rfl,rfl,trivial, ?_,trivial⟩
  ·show List.replicate _ _=_
   rw [Nat.pow_zero,Nat.mod_one,Nat.zero_mul,bd_zero,bi_rep];congr 1
  ·conv=>whnf
   omega
 ·intro i hi
  conv=>whnf
  refine cond_d (fun h2=> ?_) (fun h2=> ?_)<;>conv=>whnf
  ·refine sd_d (by omega) ?_
   conv=>whnf
   generalize hT:bv s%256^i*bv t=T
   generalize hX:bv s/256^i%256=x
   have hx:x<256:=by rw [←hX];exact Nat.mod_lt _ (by omega)
   refine loop_intro (fun t=>false) (fun k:Nat=>⟨fr 87 [(0,.d (.v (.string s))),(1,.d (.v (.string t))),(5,.own 0 0),(6,.d (i64 ((s.size:Int)-((i+1:Nat):Int)))),(7,.d (i64 (N8.tC T x (bv t) i k:Nat))),(8,.d (i64 ((t.size:Int)-((k+1:Nat):Int))))], [.row 0 3 1 8 (bi (bd m (N8.tR T x (bv t) i k)))]⟩) (fun k=>k≤t.size) (fun k=>t.size-k) 0 mixed tOk (Nat.zero_le _) ?_ ?_
   ·refine weak_r ⟨⟨rfl,rfl,rfl,rfl, ?_⟩,trivial⟩ ⟨rfl,rfl,trivial,rfl, ?_, ?_,trivial⟩
    ·rw [N8.tR_zero]
    ·conv=>whnf
     rw [N8.tC_zero];rfl
    ·conv=>whnf
     omega
   ·intro k hk
    conv=>whnf
    have hcl:=N8.tC_lt (T:=T) (b:=bv t) (i:=i) (k:=k) hx
    have hrl:=bi_length (bd m (N8.tR T x (bv t) i k))
    rw [bd_length] at hrl
    refine cond_d (fun h3=> ?_) (fun h3=> ?_)<;>conv=>whnf
    ·refine sd_d (by omega) ?_
     conv=>whnf
     refine sd_d (by omega) ?_
     conv=>whnf
     refine sd_du (by omega) (bi_uni _) ?_
     conv=>whnf
     refine rld_intro (i:=m-1-(i+k)) (r:=0) _ _ (bi_get (bd_get (m:=m) (j:=i+k) (N8.tR T x (bv t) i k) (by omega))) (by omega) (by omega) (bi_uni _) rfl ?_
     conv=>whnf
     rw [N8.t_dig]
     conv=>whnf
     refine sd_d (by omega) ?_
     conv=>whnf
     rw [bt_end s i (by omega),hX]
     conv=>whnf
     refine sd_d (by omega) ?_
     conv=>whnf
     refine sd_d (by omega) ?_
     conv=>whnf
     rw [bt_end t k (by omega)]
     conv=>whnf
     refine sd_d (by omega) ?_
     conv=>whnf
     have ho:T/256^(i+k)%256<256:=Nat.mod_lt _ (by omega)
     have eo:(UInt8.ofNat (T/256^(i+k)%256)).toNat=T/256^(i+k)%256:=by simp only [UInt8.toNat_ofNat'];omega
     have hy:bv t/256^k%256<256:=Nat.mod_lt _ (by omega)
     obtain ⟨s1,s2⟩:=N8.t_step T x (bv t) i k
     have hxy:x*(bv t/256^k%256)≤255*255:=Nat.mul_le_mul (by omega) (by omega)
     rw [eo]
     generalize hy':bv t/256^k%256=y at*
     generalize T/256^(i+k)%256=o at*
     have exy:(x:Int)*(y:Int)=((x*y:Nat):Int):=by push_cast;rfl
     rw [exy]
     generalize x*y=xy at*
     conv=>whnf
     refine sd_d (by omega) ?_
     conv=>whnf
     refine sd_d (by omega) ?_
     conv=>whnf
     refine sd_d (by omega) ?_
     conv=>whnf
     refine safe_intro (by kernel_rfl) ?_
     conv=>whnf
     refine sd_d (by omega) ?_
     conv=>whnf
     refine sd_d (by omega) ?_
     conv=>whnf
     refine sd_du (by omega) (bi_uni _) ?_
     conv=>whnf
     refine rst_one (by omega) (bi_val _) rfl ?_
     conv=>whnf
     refine sd_d (by omega) ?_
     conv=>whnf
     refine sd_d (by omega) ?_
     conv=>whnf
     refine ⟨k+1,by omega,by omega,weak_r ⟨⟨rfl,rfl,rfl,rfl, ?_⟩,trivial⟩ ⟨rfl,rfl,trivial,rfl, ?_, ?_,trivial⟩⟩
     ·rw [s2, ←bd_set (m:=m) _ (by omega) (Nat.mod_lt _ (by omega)),bi_set]
      congr 1
      ·omega
      ·congr 2
       rw [and255 _ (N8.tC T x (bv t) i k+(xy+o)) (by omega) (by omega)]
       simp only [UInt8.toNat_ofNat']
       omega
     ·conv=>whnf
      rw [sh8i, ←s1]
      omega
     ·conv=>whnf
      omega
    ·have hk2:k=t.size:=by omega
     have hbt:bv t<256^t.size:=bvl_lt _
     have hTl:T<256^(i+t.size):=by
      rw [←hT,Nat.pow_add]
      exact Nat.mul_lt_mul'' (Nat.mod_lt _ (Nat.pow_pos (by omega))) hbt
     have hend:=N8.t_end (a:=bv s) (b:=bv t) (i:=i) (n:=t.size) hbt
     simp only [hT,hX] at hend
     subst hk2
     refine sd_du (by omega) (bi_uni _) ?_
     conv=>whnf
     refine rld_intro (i:=m-1-(i+t.size)) (r:=0) _ _ (bi_get (bd_get (m:=m) (j:=i+t.size) (N8.tR T x (bv t) i t.size) (by omega))) (by omega) (by omega) (bi_uni _) rfl ?_
     conv=>whnf
     have e0:(UInt8.ofNat (0%256)).toNat=0:=rfl
     rw [N8.t_dig,Nat.div_eq_of_lt hTl,e0]
     conv=>whnf
     refine sd_d (by omega) ?_
     conv=>whnf
     refine sd_du (by omega) (bi_uni _) ?_
     conv=>whnf
     refine rst_one (by omega) (bi_val _) rfl ?_
     conv=>whnf
     refine sd_d (by omega) ?_
     conv=>whnf
     refine ⟨i+1,by omega,by omega,weak_r ⟨⟨rfl,rfl,rfl,rfl, ?_⟩,trivial⟩ ⟨rfl,rfl,trivial, ?_,trivial⟩⟩
     ·rw [←hend, ←bd_set (m:=m) _ (by omega) hcl,bi_set]
      congr 1
      ·omega
      ·congr 2
       simp only [UInt8.toNat_ofNat']
       omega
     ·conv=>whnf
      omega
  ·have hi2:i=s.size:=by omega
   have ha:bv s<256^s.size:=bvl_lt _
   rw [hi2,Nat.mod_eq_of_lt ha]
   have hbl:=bi_length (bd m (bv s*bv t))
   rw [bd_length] at hbl
   conv=>whnf
   refine sd_d (by simp only [maxLen];omega) ?_
   conv=>whnf
   refine loop_intro (fun t=>false) (fun j:Nat=>⟨fr 87 [(5,.own 0 0),(9,.own 1 0),(10,.d (i64 (j:Int)))], [.row 0 3 1 8 (bi (bd m (bv s*bv t))),.row 0 5 1 1 (by8 ((bd m (bv s*bv t)).take j++List.replicate (m-j) 0))]⟩) (fun j=>j≤m) (fun j=>m-j) 0 mixed tOk (Nat.zero_le _) ?_ ?_
   ·refine weak_r ⟨⟨rfl,rfl,rfl,rfl,rfl⟩,⟨rfl,rfl,rfl,rfl, ?_⟩,trivial⟩ ⟨trivial,trivial,rfl,trivial⟩
    rw [hbl]
    show List.replicate _ _=_
    simp only [List.take_zero,List.nil_append,by8_rep]
    congr 1
   ·intro j hj
    conv=>whnf
    have hl8:=by8_length ((bd m (bv s*bv t)).take j++List.replicate (m-j) 0)
    simp only [List.length_append,List.length_take,List.length_replicate,bd_length,Nat.min_eq_left hj] at hl8
    refine cond_d (fun h3=> ?_) (fun h3=> ?_)<;>conv=>whnf
    ·have hj2:j<m:=by omega
     obtain ⟨b,hb⟩: ∃b,(bd m (bv s*bv t))[j]? =some b:=⟨_,List.getElem?_eq_getElem (by rw [bd_length];exact hj2)⟩
     refine sd_du (by omega) (bi_uni _) ?_
     conv=>whnf
     refine rld_intro (i:=j) (r:=0) _ _ (bi_get hb) (by omega) (by omega) (bi_uni _) rfl ?_
     conv=>whnf
     refine sd_du (by omega) (by8_uni _) ?_
     conv=>whnf
     refine rst_one (by omega) (by8_val _) rfl ?_
     conv=>whnf
     refine sd_d (by omega) ?_
     conv=>whnf
     refine ⟨j+1,by omega,by omega,weak_r ⟨⟨rfl,rfl,rfl,rfl,rfl⟩,⟨rfl,rfl,rfl,rfl, ?_⟩,trivial⟩ ⟨trivial,trivial, ?_,trivial⟩⟩
     ·have e1:List.take (j+1) (bd m (bv s*bv t))=List.take j (bd m (bv s*bv t))++ [b] :=by
       rw [List.take_succ,hb];rfl
      have e2:m-j=(m-(j+1))+1:=by omega
      have e3:(((b.toNat:Int))%256)=(b.toNat:Int):=by have:=b.toNat_lt;omega
      rw [e1,e2,List.replicate_succ,Int.toNat_natCast,e3, ←by8_set]
      congr 1
      rw [List.set_append_right _ _ (by rw [List.length_take,bd_length];omega),List.length_take,bd_length,Nat.min_eq_left hj]
      simp
     ·conv=>whnf
      omega
    ·have hj2:j=m:=by omega
     rw [hj2,Nat.sub_self,List.take_of_length_le (by rw [bd_length];omega)]
     conv=>whnf
     refine sd_intro (by8_all _) ?_
     conv=>whnf
     refine call_data rfl rfl (rtrim_c _) ?_
     conv=>whnf
     refine ⟨?_,trivial⟩
     conv=>whnf
     have hbt:bv t<256^t.size:=bvl_lt _
     have:=Nat.mul_lt_mul'' ha hbt
     rw [←Nat.pow_add,hm] at this
     rw [List.replicate_zero,List.append_nil,bv_by8,bvl_bd,Nat.mod_eq_of_lt this]
theorem raddMag_n(a b:Nat)(ha:(nb a).size<1000000000000)(hb:(nb b).size<1000000000000):Fun Tryz.prog 257 [.v (.string (nb a)),.v (.string (nb b))] [.v (.string (nb (a+b)))] :=by
 have:=raddMag_c (nb a) (nb b) ha hb
 rwa [bv_nb,bv_nb] at this
theorem rsubMag_n(a b:Nat)(ha:(nb a).size<1000000000000)(hb:(nb b).size<1000000000000)(h:b≤a):Fun Tryz.prog 259 [.v (.string (nb a)),.v (.string (nb b))] [.v (.string (nb (a-b)))] :=by
 have:=rsubMag_c (nb a) (nb b) ha hb (by rw [bv_nb,bv_nb];exact h)
 rwa [bv_nb,bv_nb] at this
def tc(b i j:Nat):S:= .d (.v (.string (cond (Nat.blt j i) (nb (b*2^j)) ⟨#[]⟩)))
def tb(b i:Nat):List S:= [tc b i 0,tc b i 1,tc b i 2,tc b i 3,tc b i 4,tc b i 5,tc b i 6,tc b i 7]
theorem ext1(s:ByteArray)(i:Nat)(h:i<s.size):(s.extract ((i:Nat):Int).toNat ((i:Int)+1).toNat).data.toList= [s.data.toList[i]'(by simpa using h)] :=by
 rw [Int.toNat_natCast,show ((i:Int)+1).toNat=i+1 by omega,ByteArray.data_extract,Array.toList_extract,List.extract_eq_take_drop]
 have hl:i<s.data.toList.length:=by simpa using h
 rw [show i+1-i=1 by omega,List.drop_eq_getElem_cons hl]
 rfl
theorem bv_snoc1(s:ByteArray)(i r:Nat)(h:i<s.size):bv (nb r++s.extract ((i:Nat):Int).toNat ((i:Int)+1).toNat)=r*256+(s.data.toList[i]'(by simpa using h)).toNat:=by
 unfold bv
 rw [ByteArray.data_append,Array.toList_append,ext1 s i h,bvl_snoc]
 show bvl (nbl r)*256+_=_
 rw [bvl_nbl]
set_option maxHeartbeats 2000000 in
theorem rdivMag_c(s:ByteArray)(b:Nat)(hs:s.size<1000000000000)(hb:(nb b).size<400000000000)(h0:b≠0):Fun Tryz.prog 316 [.v (.string s),.v (.string (nb b))] [.v (.string (nb (bv s/b))),.v (.string (nb (bv s%b)))] :=by
 have hsz: ∀n,n<b*256→(nb n).size<500000000000:=by
  intro n hn
  rw [nb_size] at hb ⊢
  have h1:=bvl_lt (nbl b)
  rw [bvl_nbl] at h1
  have:=nbl_length_le (n:=n) (k:=(nbl b).length+1) (by rw [Nat.pow_succ];omega)
  omega
 have dbl: ∀n m,n<b*128→n+n=m→Fun Tryz.prog 257 [.v (.string (nb n)),.v (.string (nb n))] [.v (.string (nb m))] :=by
  intro n m h1 h2
  subst h2
  exact raddMag_n n n (by have:=hsz n (by omega);omega) (by have:=hsz n (by omega);omega)
 refine fun_of_go (fun t=>false) mixed tOk Tryz.func316 rfl rfl ?_
 conv=>whnf
 refine sd_d (by omega) ?_
 conv=>whnf
 refine loop_intro (fun t=>false) (fun i:Nat=>⟨fr 76 [(0,.d (.v (.string s))),(1,.d (.v (.string (nb b)))),(4,.d (.v (.string ⟨#[]⟩))),(5,.d (.v (.string ⟨#[]⟩))),(6,.ptr 0 0 0),(7,.d (i64 (i:Int)))], [.box 327 (tb b i)]⟩) (fun i=>1≤i∧i≤8) (fun i=>8-i) 1 mixed tOk ⟨by omega,by omega⟩ ?_ ?_
 ·refine weak_r ⟨⟨rfl, ?_⟩,trivial⟩ ⟨rfl,rfl,rfl,rfl,rfl,rfl,trivial⟩
  refine ⟨?_,rfl,rfl,rfl,rfl,rfl,rfl,rfl,trivial⟩
  conv=>whnf
  rw [Nat.pow_zero,Nat.mul_one];rfl
 ·rintro i ⟨i1,i2⟩
  rcases (show i=8∨i=1∨i=2∨i=3∨i=4∨i=5∨i=6∨i=7 by omega) with rfl|rfl|rfl|rfl|rfl|rfl|rfl|rfl
  ·conv=>whnf
   refine cond_df (by omega) ?_
   conv=>whnf
   refine sd_d (by simp only [maxLen];omega) ?_
   conv=>whnf
   refine loop_intro (fun t=>false) (fun x:Nat×List UInt8=>⟨fr 76 [(0,.d (.v (.string s))),(6,.ptr 0 0 0),(8,.own 1 0),(9,.d (.v (.string (nb (pre s x.1%b))))),(10,.d (i64 (x.1:Int)))], [.box 327 (tb b 8),.row 0 5 1 1 (by8 (x.2++List.replicate (s.size-x.1) 0))]⟩) (fun x=>x.1≤s.size∧x.2.length=x.1∧bvl x.2=pre s x.1/b) (fun x=>s.size-x.1) (0, []) mixed tOk ⟨Nat.zero_le _,rfl, ?_⟩ ?_ ?_
   ·rw [pre_zero,Nat.zero_div];rfl
   ·refine weak_r ⟨⟨rfl, ?_⟩,⟨rfl,rfl,rfl,rfl, ?_⟩,trivial⟩ ⟨rfl,rfl,trivial, ?_,rfl,trivial⟩
    ·exact ⟨rfl,rfl,rfl,rfl,rfl,rfl,rfl,rfl,trivial⟩
    ·show List.replicate _ _=_
     simp only [List.nil_append,by8_rep]
     congr 1
    ·conv=>whnf
     rw [pre_zero,Nat.zero_mod,nb_zero];rfl
   ·rintro ⟨i,Q⟩ ⟨q1,q2,q3⟩
    simp only at q1 q2 q3 ⊢
    conv=>whnf
    refine cond_d (fun h3=> ?_) (fun h3=> ?_)<;>conv=>whnf
    ·refine sd_d (by omega) ?_
     conv=>whnf
     refine sd_d (by omega) ?_
     conv=>whnf
     have hr:pre s i%b<b:=Nat.mod_lt _ (by omega)
     have hr2:=hsz _ (show pre s i%b<b*256 by omega)
     obtain ⟨p1,p2⟩:=pre_step s i (by omega)
     have e1:=bv_snoc1 s i (pre s i%b) (by omega)
     have e2:(s.extract ((i:Nat):Int).toNat ((i:Int)+1).toNat).size=1:=by
      show (s.extract ((i:Nat):Int).toNat ((i:Int)+1).toNat).data.toList.length=1
      rw [ext1 s i (by omega)];rfl
     refine sd_d (by omega) ?_
     conv=>whnf
     refine call_data rfl rfl (rtrim_c _) ?_
     rw [e1]
     have hx256:=(s.data.toList[i]'(by simpa using (show i<s.size by omega))).toNat_lt
     generalize (s.data.toList[i]'_).toNat=x at*
     have hR0:pre s i%b*256+x<b*256:=by omega
     generalize hR:pre s i%b*256+x=R0 at*
     conv=>whnf
     refine loop_intro (fun t=>false) (fun z:Nat×Nat×Nat=>⟨fr 76 [(0,.d (.v (.string s))),(6,.ptr 0 0 0),(8,.own 1 0),(9,.d (.v (.string (nb z.2.2)))),(10,.d (i64 (i:Int))),(11,.d (i64 (z.2.1:Int))),(12,.d (i64 ((z.1:Int)-1)))], [.box 327 (tb b 8),.row 0 5 1 1 (by8 (Q++List.replicate (s.size-i) 0))]⟩) (fun z=>z.1≤8∧z.2.1<256∧z.2.1*b+z.2.2=R0∧z.2.2<b*2^z.1) (fun z=>z.1) (8,0,R0) mixed tOk ⟨Nat.le_refl _,by simp,by simp,by simp only;omega⟩ ?_ ?_
     ·refine weak_r ⟨⟨rfl, ?_⟩,⟨rfl,rfl,rfl,rfl,rfl⟩,trivial⟩ ⟨rfl,rfl,trivial,rfl,rfl,rfl,rfl,trivial⟩
      exact ⟨rfl,rfl,rfl,rfl,rfl,rfl,rfl,rfl,trivial⟩
     ·rintro ⟨c,d,r⟩ ⟨c1,c2,c3,c4⟩
      simp only at c1 c2 c3 c4 ⊢
      rcases (show c=0∨c=1∨c=2∨c=3∨c=4∨c=5∨c=6∨c=7∨c=8 by omega) with rfl|rfl|rfl|rfl|rfl|rfl|rfl|rfl|rfl
      ·conv=>whnf
       refine cond_df (by omega) ?_
       conv=>whnf
       have hl8:=by8_length (Q++List.replicate (s.size-i) 0)
       rw [List.length_append,List.length_replicate,q2] at hl8
       refine sd_du (by omega) (by8_uni _) ?_
       conv=>whnf
       refine rst_one (by omega) (by8_val _) rfl ?_
       conv=>whnf
       refine sd_d (by omega) ?_
       conv=>whnf
       have rl:r<b:=by simpa using c4
       have hpre:pre s (i+1)=b*(pre s i/b*256+d)+r:=by
        have h9:=Nat.div_add_mod (pre s i) b
        rw [p2,Nat.mul_add, ←Nat.mul_assoc,Nat.mul_comm b d]
        omega
       have hdv:pre s (i+1)/b=pre s i/b*256+d:=by
        rw [hpre,Nat.mul_add_div (by omega),Nat.div_eq_of_lt rl];rfl
       have hmd:pre s (i+1)%b=r:=by
        rw [hpre,Nat.mul_add_mod,Nat.mod_eq_of_lt rl]
       have hd8:(UInt8.ofNat d).toNat=d:=by simp only [UInt8.toNat_ofNat'];omega
       refine ⟨(i+1,Q++ [UInt8.ofNat d]),⟨by simp only;omega,by simp [q2], ?_⟩,by simp only;omega,weak_r ⟨⟨rfl, ?_⟩,⟨rfl,rfl,rfl,rfl, ?_⟩,trivial⟩ ⟨rfl,rfl,trivial, ?_, ?_,trivial⟩⟩
       ·simp only
        rw [bvl_snoc,q3,hd8,hdv]
       ·exact ⟨rfl,rfl,rfl,rfl,rfl,rfl,rfl,rfl,trivial⟩
       ·have e8:s.size-i=(s.size-(i+1))+1:=by omega
        have e9:((d:Int))%256=((UInt8.ofNat d).toNat:Int):=by rw [hd8];omega
        simp only
        rw [e8,List.replicate_succ,Int.toNat_natCast,e9, ←by8_set]
        congr 1
        rw [List.set_append_right _ _ (by omega),q2]
        simp
       ·conv=>whnf
        rw [hmd]
       ·conv=>whnf
        omega
      ·conv=>whnf
       refine cond_dt (by omega) ?_
       conv=>whnf
       refine sd_d (by omega) ?_
       conv=>whnf
       refine call_data rfl rfl (rcmp_c r (b*2^0)) ?_
       conv=>whnf
       refine cond_d (fun g=> ?_) (fun g=> ?_)
       ·have ge:b*2^0≤r:=by unfold cmpN at g;split at g<;>omega
        conv=>whnf
        refine sd_d (by omega) ?_
        conv=>whnf
        refine call_data rfl rfl (rsubMag_n r (b*2^0) (by have:=hsz r (by omega);omega) (by have:=hsz (b*2^0) (by omega);omega) ge) ?_
        conv=>whnf
        have esh:(1:Int)*2^min ((((1:Nat):Int)-1)%18446744073709551616).toNat IntKind.i64.bits=((2^0:Nat):Int):=by decide
        rw [esh]
        refine sd_dd (by omega) (by omega) ?_
        conv=>whnf
        refine sd_d (by omega) ?_
        conv=>whnf
        refine sd_d (by omega) ?_
        conv=>whnf
        have c5:(d+2^0)*b+(r-b*2^0)=R0:=by rw [Nat.add_mul,Nat.mul_comm (2^0) b];omega
        have c6:d+2^0<256:=by
         refine Classical.byContradiction fun hn=> ?_
         have:=Nat.mul_le_mul_right b (show 256≤d+2^0 by omega)
         omega
        refine ⟨(0,d+2^0,r-b*2^0),⟨by simp only;omega,c6,c5,by simp only;omega⟩,by simp only;omega,weak_r ⟨⟨rfl, ?_⟩,⟨rfl,rfl,rfl,rfl,rfl⟩,trivial⟩ ⟨rfl,rfl,trivial,rfl,rfl, ?_, ?_,trivial⟩⟩
        ·exact ⟨rfl,rfl,rfl,rfl,rfl,rfl,rfl,rfl,trivial⟩
        ·conv=>whnf
         exact (Int.natCast_add d (2^0)).symm
        ·conv=>whnf
         omega
       ·have lt:r<b*2^0:=by unfold cmpN at g;split at g<;>omega
        conv=>whnf
        refine sd_d (by omega) ?_
        conv=>whnf
        refine ⟨(0,d,r),⟨by simp only;omega,c2,c3,lt⟩,by simp only;omega,weak_r ⟨⟨rfl, ?_⟩,⟨rfl,rfl,rfl,rfl,rfl⟩,trivial⟩ ⟨rfl,rfl,trivial,rfl,rfl,rfl, ?_,trivial⟩⟩
        ·exact ⟨rfl,rfl,rfl,rfl,rfl,rfl,rfl,rfl,trivial⟩
        ·conv=>whnf
         omega
      ·conv=>whnf
       refine cond_dt (by omega) ?_
       conv=>whnf
       refine sd_d (by omega) ?_
       conv=>whnf
       refine call_data rfl rfl (rcmp_c r (b*2^1)) ?_
       conv=>whnf
       refine cond_d (fun g=> ?_) (fun g=> ?_)
       ·have ge:b*2^1≤r:=by unfold cmpN at g;split at g<;>omega
        conv=>whnf
        refine sd_d (by omega) ?_
        conv=>whnf
        refine call_data rfl rfl (rsubMag_n r (b*2^1) (by have:=hsz r (by omega);omega) (by have:=hsz (b*2^1) (by omega);omega) ge) ?_
        conv=>whnf
        have esh:(1:Int)*2^min ((((2:Nat):Int)-1)%18446744073709551616).toNat IntKind.i64.bits=((2^1:Nat):Int):=by decide
        rw [esh]
        refine sd_dd (by omega) (by omega) ?_
        conv=>whnf
        refine sd_d (by omega) ?_
        conv=>whnf
        refine sd_d (by omega) ?_
        conv=>whnf
        have c5:(d+2^1)*b+(r-b*2^1)=R0:=by rw [Nat.add_mul,Nat.mul_comm (2^1) b];omega
        have c6:d+2^1<256:=by
         refine Classical.byContradiction fun hn=> ?_
         have:=Nat.mul_le_mul_right b (show 256≤d+2^1 by omega)
         omega
        refine ⟨(1,d+2^1,r-b*2^1),⟨by simp only;omega,c6,c5,by simp only;omega⟩,by simp only;omega,weak_r ⟨⟨rfl, ?_⟩,⟨rfl,rfl,rfl,rfl,rfl⟩,trivial⟩ ⟨rfl,rfl,trivial,rfl,rfl, ?_, ?_,trivial⟩⟩
        ·exact ⟨rfl,rfl,rfl,rfl,rfl,rfl,rfl,rfl,trivial⟩
        ·conv=>whnf
         exact (Int.natCast_add d (2^1)).symm
        ·conv=>whnf
         omega
       ·have lt:r<b*2^1:=by unfold cmpN at g;split at g<;>omega
        conv=>whnf
        refine sd_d (by omega) ?_
        conv=>whnf
        refine ⟨(1,d,r),⟨by simp only;omega,c2,c3,lt⟩,by simp only;omega,weak_r ⟨⟨rfl, ?_⟩,⟨rfl,rfl,rfl,rfl,rfl⟩,trivial⟩ ⟨rfl,rfl,trivial,rfl,rfl,rfl, ?_,trivial⟩⟩
        ·exact ⟨rfl,rfl,rfl,rfl,rfl,rfl,rfl,rfl,trivial⟩
        ·conv=>whnf
         omega
      ·conv=>whnf
       refine cond_dt (by omega) ?_
       conv=>whnf
       refine sd_d (by omega) ?_
       conv=>whnf
       refine call_data rfl rfl (rcmp_c r (b*2^2)) ?_
       conv=>whnf
       refine cond_d (fun g=> ?_) (fun g=> ?_)
       ·have ge:b*2^2≤r:=by unfold cmpN at g;split at g<;>omega
        conv=>whnf
        refine sd_d (by omega) ?_
        conv=>whnf
        refine call_data rfl rfl (rsubMag_n r (b*2^2) (by have:=hsz r (by omega);omega) (by have:=hsz (b*2^2) (by omega);omega) ge) ?_
        conv=>whnf
        have esh:(1:Int)*2^min ((((3:Nat):Int)-1)%18446744073709551616).toNat IntKind.i64.bits=((2^2:Nat):Int):=by decide
        rw [esh]
        refine sd_dd (by omega) (by omega) ?_
        conv=>whnf
        refine sd_d (by omega) ?_
        conv=>whnf
        refine sd_d (by omega) ?_
        conv=>whnf
        have c5:(d+2^2)*b+(r-b*2^2)=R0:=by rw [Nat.add_mul,Nat.mul_comm (2^2) b];omega
        have c6:d+2^2<256:=by
         refine Classical.byContradiction fun hn=> ?_
         have:=Nat.mul_le_mul_right b (show 256≤d+2^2 by omega)
         omega
        refine ⟨(2,d+2^2,r-b*2^2),⟨by simp only;omega,c6,c5,by simp only;omega⟩,by simp only;omega,weak_r ⟨⟨rfl, ?_⟩,⟨rfl,rfl,rfl,rfl,rfl⟩,trivial⟩ ⟨rfl,rfl,trivial,rfl,rfl, ?_, ?_,trivial⟩⟩
        ·exact ⟨rfl,rfl,rfl,rfl,rfl,rfl,rfl,rfl,trivial⟩
        ·conv=>whnf
         exact (Int.natCast_add d (2^2)).symm
        ·conv=>whnf
         omega
       ·have lt:r<b*2^2:=by unfold cmpN at g;split at g<;>omega
        conv=>whnf
        refine sd_d (by omega) ?_
        conv=>whnf
        refine ⟨(2,d,r),⟨by simp only;omega,c2,c3,lt⟩,by simp only;omega,weak_r ⟨⟨rfl, ?_⟩,⟨rfl,rfl,rfl,rfl,rfl⟩,trivial⟩ ⟨rfl,rfl,trivial,rfl,rfl,rfl, ?_,trivial⟩⟩
        ·exact ⟨rfl,rfl,rfl,rfl,rfl,rfl,rfl,rfl,trivial⟩
        ·conv=>whnf
         omega
      ·conv=>whnf
       refine cond_dt (by omega) ?_
       conv=>whnf
       refine sd_d (by omega) ?_
       conv=>whnf
       refine call_data rfl rfl (rcmp_c r (b*2^3)) ?_
       conv=>whnf
       refine cond_d (fun g=> ?_) (fun g=> ?_)
       ·have ge:b*2^3≤r:=by unfold cmpN at g;split at g<;>omega
        conv=>whnf
        refine sd_d (by omega) ?_
        conv=>whnf
        refine call_data rfl rfl (rsubMag_n r (b*2^3) (by have:=hsz r (by omega);omega) (by have:=hsz (b*2^3) (by omega);omega) ge) ?_
        conv=>whnf
        have esh:(1:Int)*2^min ((((4:Nat):Int)-1)%18446744073709551616).toNat IntKind.i64.bits=((2^3:Nat):Int):=by decide
        rw [esh]
        refine sd_dd (by omega) (by omega) ?_
        conv=>whnf
        refine sd_d (by omega) ?_
        conv=>whnf
        refine sd_d (by omega) ?_
        conv=>whnf
        have c5:(d+2^3)*b+(r-b*2^3)=R0:=by rw [Nat.add_mul,Nat.mul_comm (2^3) b];omega
        have c6:d+2^3<256:=by
         refine Classical.byContradiction fun hn=> ?_
         have:=Nat.mul_le_mul_right b (show 256≤d+2^3 by omega)
         omega
        refine ⟨(3,d+2^3,r-b*2^3),⟨by simp only;omega,c6,c5,by simp only;omega⟩,by simp only;omega,weak_r ⟨⟨rfl, ?_⟩,⟨rfl,rfl,rfl,rfl,rfl⟩,trivial⟩ ⟨rfl,rfl,trivial,rfl,rfl, ?_, ?_,trivial⟩⟩
        ·exact ⟨rfl,rfl,rfl,rfl,rfl,rfl,rfl,rfl,trivial⟩
        ·conv=>whnf
         exact (Int.natCast_add d (2^3)).symm
        ·conv=>whnf
         omega
       ·have lt:r<b*2^3:=by unfold cmpN at g;split at g<;>omega
        conv=>whnf
        refine sd_d (by omega) ?_
        conv=>whnf
        refine ⟨(3,d,r),⟨by simp only;omega,c2,c3,lt⟩,by simp only;omega,weak_r ⟨⟨rfl, ?_⟩,⟨rfl,rfl,rfl,rfl,rfl⟩,trivial⟩ ⟨rfl,rfl,trivial,rfl,rfl,rfl, ?_,trivial⟩⟩
        ·exact ⟨rfl,rfl,rfl,rfl,rfl,rfl,rfl,rfl,trivial⟩
        ·conv=>whnf
         omega
      ·conv=>whnf
       refine cond_dt (by omega) ?_
       conv=>whnf
       refine sd_d (by omega) ?_
       conv=>whnf
       refine call_data rfl rfl (rcmp_c r (b*2^4)) ?_
       conv=>whnf
       refine cond_d (fun g=> ?_) (fun g=> ?_)
       ·have ge:b*2^4≤r:=by unfold cmpN at g;split at g<;>omega
        conv=>whnf
        refine sd_d (by omega) ?_
        conv=>whnf
        refine call_data rfl rfl (rsubMag_n r (b*2^4) (by have:=hsz r (by omega);omega) (by have:=hsz (b*2^4) (by omega);omega) ge) ?_
        conv=>whnf
        have esh:(1:Int)*2^min ((((5:Nat):Int)-1)%18446744073709551616).toNat IntKind.i64.bits=((2^4:Nat):Int):=by decide
        rw [esh]
        refine sd_dd (by omega) (by omega) ?_
        conv=>whnf
        refine sd_d (by omega) ?_
        conv=>whnf
        refine sd_d (by omega) ?_
        conv=>whnf
        have c5:(d+2^4)*b+(r-b*2^4)=R0:=by rw [Nat.add_mul,Nat.mul_comm (2^4) b];omega
        have c6:d+2^4<256:=by
         refine Classical.byContradiction fun hn=> ?_
         have:=Nat.mul_le_mul_right b (show 256≤d+2^4 by omega)
         omega
        refine ⟨(4,d+2^4,r-b*2^4),⟨by simp only;omega,c6,c5,by simp only;omega⟩,by simp only;omega,weak_r ⟨⟨rfl, ?_⟩,⟨rfl,rfl,rfl,rfl,rfl⟩,trivial⟩ ⟨rfl,rfl,trivial,rfl,rfl, ?_, ?_,trivial⟩⟩
        ·exact ⟨rfl,rfl,rfl,rfl,rfl,rfl,rfl,rfl,trivial⟩
        ·conv=>whnf
         exact (Int.natCast_add d (2^4)).symm
        ·conv=>whnf
         omega
       ·have lt:r<b*2^4:=by unfold cmpN at g;split at g<;>omega
        conv=>whnf
        refine sd_d (by omega) ?_
        conv=>whnf
        refine ⟨(4,d,r),⟨by simp only;omega,c2,c3,lt⟩,by simp only;omega,weak_r ⟨⟨rfl, ?_⟩,⟨rfl,rfl,rfl,rfl,rfl⟩,trivial⟩ ⟨rfl,rfl,trivial,rfl,rfl,rfl, ?_,trivial⟩⟩
        ·exact ⟨rfl,rfl,rfl,rfl,rfl,rfl,rfl,rfl,trivial⟩
        ·conv=>whnf
         omega
      ·conv=>whnf
       refine cond_dt (by omega) ?_
       conv=>whnf
       refine sd_d (by omega) ?_
       conv=>whnf
       refine call_data rfl rfl (rcmp_c r (b*2^5)) ?_
       conv=>whnf
       refine cond_d (fun g=> ?_) (fun g=> ?_)
       ·have ge:b*2^5≤r:=by unfold cmpN at g;split at g<;>omega
        conv=>whnf
        refine sd_d (by omega) ?_
        conv=>whnf
        refine call_data rfl rfl (rsubMag_n r (b*2^5) (by have:=hsz r (by omega);omega) (by have:=hsz (b*2^5) (by omega);omega) ge) ?_
        conv=>whnf
        have esh:(1:Int)*2^min ((((6:Nat):Int)-1)%18446744073709551616).toNat IntKind.i64.bits=((2^5:Nat):Int):=by decide
        rw [esh]
        refine sd_dd (by omega) (by omega) ?_
        conv=>whnf
        refine sd_d (by omega) ?_
        conv=>whnf
        refine sd_d (by omega) ?_
        conv=>whnf
        have c5:(d+2^5)*b+(r-b*2^5)=R0:=by rw [Nat.add_mul,Nat.mul_comm (2^5) b];omega
        have c6:d+2^5<256:=by
         refine Classical.byContradiction fun hn=> ?_
         have:=Nat.mul_le_mul_right b (show 256≤d+2^5 by omega)
         omega
        refine ⟨(5,d+2^5,r-b*2^5),⟨by simp only;omega,c6,c5,by simp only;omega⟩,by simp only;omega,weak_r ⟨⟨rfl, ?_⟩,⟨rfl,rfl,rfl,rfl,rfl⟩,trivial⟩ ⟨rfl,rfl,trivial,rfl,rfl, ?_, ?_,trivial⟩⟩
        ·exact ⟨rfl,rfl,rfl,rfl,rfl,rfl,rfl,rfl,trivial⟩
        ·conv=>whnf
         exact (Int.natCast_add d (2^5)).symm
        ·conv=>whnf
         omega
       ·have lt:r<b*2^5:=by unfold cmpN at g;split at g<;>omega
        conv=>whnf
        refine sd_d (by omega) ?_
        conv=>whnf
        refine ⟨(5,d,r),⟨by simp only;omega,c2,c3,lt⟩,by simp only;omega,weak_r ⟨⟨rfl, ?_⟩,⟨rfl,rfl,rfl,rfl,rfl⟩,trivial⟩ ⟨rfl,rfl,trivial,rfl,rfl,rfl, ?_,trivial⟩⟩
        ·exact ⟨rfl,rfl,rfl,rfl,rfl,rfl,rfl,rfl,trivial⟩
        ·conv=>whnf
         omega
      ·conv=>whnf
       refine cond_dt (by omega) ?_
       conv=>whnf
       refine sd_d (by omega) ?_
       conv=>whnf
       refine call_data rfl rfl (rcmp_c r (b*2^6)) ?_
       conv=>whnf
       refine cond_d (fun g=> ?_) (fun g=> ?_)
       ·have ge:b*2^6≤r:=by unfold cmpN at g;split at g<;>omega
        conv=>whnf
        refine sd_d (by omega) ?_
        conv=>whnf
        refine call_data rfl rfl (rsubMag_n r (b*2^6) (by have:=hsz r (by omega);omega) (by have:=hsz (b*2^6) (by omega);omega) ge) ?_
        conv=>whnf
        have esh:(1:Int)*2^min ((((7:Nat):Int)-1)%18446744073709551616).toNat IntKind.i64.bits=((2^6:Nat):Int):=by decide
        rw [esh]
        refine sd_dd (by omega) (by omega) ?_
        conv=>whnf
        refine sd_d (by omega) ?_
        conv=>whnf
        refine sd_d (by omega) ?_
        conv=>whnf
        have c5:(d+2^6)*b+(r-b*2^6)=R0:=by rw [Nat.add_mul,Nat.mul_comm (2^6) b];omega
        have c6:d+2^6<256:=by
         refine Classical.byContradiction fun hn=> ?_
         have:=Nat.mul_le_mul_right b (show 256≤d+2^6 by omega)
         omega
        refine ⟨(6,d+2^6,r-b*2^6),⟨by simp only;omega,c6,c5,by simp only;omega⟩,by simp only;omega,weak_r ⟨⟨rfl, ?_⟩,⟨rfl,rfl,rfl,rfl,rfl⟩,trivial⟩ ⟨rfl,rfl,trivial,rfl,rfl, ?_, ?_,trivial⟩⟩
        ·exact ⟨rfl,rfl,rfl,rfl,rfl,rfl,rfl,rfl,trivial⟩
        ·conv=>whnf
         exact (Int.natCast_add d (2^6)).symm
        ·conv=>whnf
         omega
       ·have lt:r<b*2^6:=by unfold cmpN at g;split at g<;>omega
        conv=>whnf
        refine sd_d (by omega) ?_
        conv=>whnf
        refine ⟨(6,d,r),⟨by simp only;omega,c2,c3,lt⟩,by simp only;omega,weak_r ⟨⟨rfl, ?_⟩,⟨rfl,rfl,rfl,rfl,rfl⟩,trivial⟩ ⟨rfl,rfl,trivial,rfl,rfl,rfl, ?_,trivial⟩⟩
        ·exact ⟨rfl,rfl,rfl,rfl,rfl,rfl,rfl,rfl,trivial⟩
        ·conv=>whnf
         omega
      ·conv=>whnf
       refine cond_dt (by omega) ?_
       conv=>whnf
       refine sd_d (by omega) ?_
       conv=>whnf
       refine call_data rfl rfl (rcmp_c r (b*2^7)) ?_
       conv=>whnf
       refine cond_d (fun g=> ?_) (fun g=> ?_)
       ·have ge:b*2^7≤r:=by unfold cmpN at g;split at g<;>omega
        conv=>whnf
        refine sd_d (by omega) ?_
        conv=>whnf
        refine call_data rfl rfl (rsubMag_n r (b*2^7) (by have:=hsz r (by omega);omega) (by have:=hsz (b*2^7) (by omega);omega) ge) ?_
        conv=>whnf
        have esh:(1:Int)*2^min ((((8:Nat):Int)-1)%18446744073709551616).toNat IntKind.i64.bits=((2^7:Nat):Int):=by decide
        rw [esh]
        refine sd_dd (by omega) (by omega) ?_
        conv=>whnf
        refine sd_d (by omega) ?_
        conv=>whnf
        refine sd_d (by omega) ?_
        conv=>whnf
        have c5:(d+2^7)*b+(r-b*2^7)=R0:=by rw [Nat.add_mul,Nat.mul_comm (2^7) b];omega
        have c6:d+2^7<256:=by
         refine Classical.byContradiction fun hn=> ?_
         have:=Nat.mul_le_mul_right b (show 256≤d+2^7 by omega)
         omega
        refine ⟨(7,d+2^7,r-b*2^7),⟨by simp only;omega,c6,c5,by simp only;omega⟩,by simp only;omega,weak_r ⟨⟨rfl, ?_⟩,⟨rfl,rfl,rfl,rfl,rfl⟩,trivial⟩ ⟨rfl,rfl,trivial,rfl,rfl, ?_, ?_,trivial⟩⟩
        ·exact ⟨rfl,rfl,rfl,rfl,rfl,rfl,rfl,rfl,trivial⟩
        ·conv=>whnf
         exact (Int.natCast_add d (2^7)).symm
        ·conv=>whnf
         omega
       ·have lt:r<b*2^7:=by unfold cmpN at g;split at g<;>omega
        conv=>whnf
        refine sd_d (by omega) ?_
        conv=>whnf
        refine ⟨(7,d,r),⟨by simp only;omega,c2,c3,lt⟩,by simp only;omega,weak_r ⟨⟨rfl, ?_⟩,⟨rfl,rfl,rfl,rfl,rfl⟩,trivial⟩ ⟨rfl,rfl,trivial,rfl,rfl,rfl, ?_,trivial⟩⟩
        ·exact ⟨rfl,rfl,rfl,rfl,rfl,rfl,rfl,rfl,trivial⟩
        ·conv=>whnf
         omega
    ·have hi2:i=s.size:=by omega
     refine sd_intro (by8_all _) ?_
     conv=>whnf
     refine call_data rfl rfl (rtrim_c _) ?_
     conv=>whnf
     refine ⟨?_, ?_,trivial⟩
     ·conv=>whnf
      rw [hi2,Nat.sub_self,List.replicate_zero,List.append_nil,bv_by8,q3,hi2,pre_all]
     ·conv=>whnf
      rw [hi2,pre_all]
  ·conv=>whnf
   refine cond_dt (by omega) ?_
   conv=>whnf
   refine sd_d (by omega) ?_
   conv=>whnf
   refine sd_d (by omega) ?_
   conv=>whnf
   refine sd_d (by omega) ?_
   conv=>whnf
   refine sd_d (by omega) ?_
   conv=>whnf
   refine callv_data (dbl (b*2^0) (b*2^1) (by omega) (by omega)) ?_
   conv=>whnf
   refine sd_d (by omega) ?_
   conv=>whnf
   refine safe_intro (by kernel_rfl) ?_
   conv=>whnf
   refine sd_d (by omega) ?_
   conv=>whnf
   refine ⟨2,⟨by omega,by omega⟩,by omega,weak_r ⟨⟨rfl, ?_⟩,trivial⟩ ⟨rfl,rfl,rfl,rfl,rfl,rfl,trivial⟩⟩
   exact ⟨rfl,rfl,rfl,rfl,rfl,rfl,rfl,rfl,trivial⟩
  ·conv=>whnf
   refine cond_dt (by omega) ?_
   conv=>whnf
   refine sd_d (by omega) ?_
   conv=>whnf
   refine sd_d (by omega) ?_
   conv=>whnf
   refine sd_d (by omega) ?_
   conv=>whnf
   refine sd_d (by omega) ?_
   conv=>whnf
   refine callv_data (dbl (b*2^1) (b*2^2) (by omega) (by omega)) ?_
   conv=>whnf
   refine sd_d (by omega) ?_
   conv=>whnf
   refine safe_intro (by kernel_rfl) ?_
   conv=>whnf
   refine sd_d (by omega) ?_
   conv=>whnf
   refine ⟨3,⟨by omega,by omega⟩,by omega,weak_r ⟨⟨rfl, ?_⟩,trivial⟩ ⟨rfl,rfl,rfl,rfl,rfl,rfl,trivial⟩⟩
   exact ⟨rfl,rfl,rfl,rfl,rfl,rfl,rfl,rfl,trivial⟩
  ·conv=>whnf
   refine cond_dt (by omega) ?_
   conv=>whnf
   refine sd_d (by omega) ?_
   conv=>whnf
   refine sd_d (by omega) ?_
   conv=>whnf
   refine sd_d (by omega) ?_
   conv=>whnf
   refine sd_d (by omega) ?_
   conv=>whnf
   refine callv_data (dbl (b*2^2) (b*2^3) (by omega) (by omega)) ?_
   conv=>whnf
   refine sd_d (by omega) ?_
   conv=>whnf
   refine safe_intro (by kernel_rfl) ?_
   conv=>whnf
   refine sd_d (by omega) ?_
   conv=>whnf
   refine ⟨4,⟨by omega,by omega⟩,by omega,weak_r ⟨⟨rfl, ?_⟩,trivial⟩ ⟨rfl,rfl,rfl,rfl,rfl,rfl,trivial⟩⟩
   exact ⟨rfl,rfl,rfl,rfl,rfl,rfl,rfl,rfl,trivial⟩
  ·conv=>whnf
   refine cond_dt (by omega) ?_
   conv=>whnf
   refine sd_d (by omega) ?_
   conv=>whnf
   refine sd_d (by omega) ?_
   conv=>whnf
   refine sd_d (by omega) ?_
   conv=>whnf
   refine sd_d (by omega) ?_
   conv=>whnf
   refine callv_data (dbl (b*2^3) (b*2^4) (by omega) (by omega)) ?_
   conv=>whnf
   refine sd_d (by omega) ?_
   conv=>whnf
   refine safe_intro (by kernel_rfl) ?_
   conv=>whnf
   refine sd_d (by omega) ?_
   conv=>whnf
   refine ⟨5,⟨by omega,by omega⟩,by omega,weak_r ⟨⟨rfl, ?_⟩,trivial⟩ ⟨rfl,rfl,rfl,rfl,rfl,rfl,trivial⟩⟩
   exact ⟨rfl,rfl,rfl,rfl,rfl,rfl,rfl,rfl,trivial⟩
  ·conv=>whnf
   refine cond_dt (by omega) ?_
   conv=>whnf
   refine sd_d (by omega) ?_
   conv=>whnf
   refine sd_d (by omega) ?_
   conv=>whnf
   refine sd_d (by omega) ?_
   conv=>whnf
   refine sd_d (by omega) ?_
   conv=>whnf
   refine callv_data (dbl (b*2^4) (b*2^5) (by omega) (by omega)) ?_
   conv=>whnf
   refine sd_d (by omega) ?_
   conv=>whnf
   refine safe_intro (by kernel_rfl) ?_
   conv=>whnf
   refine sd_d (by omega) ?_
   conv=>whnf
   refine ⟨6,⟨by omega,by omega⟩,by omega,weak_r ⟨⟨rfl, ?_⟩,trivial⟩ ⟨rfl,rfl,rfl,rfl,rfl,rfl,trivial⟩⟩
   exact ⟨rfl,rfl,rfl,rfl,rfl,rfl,rfl,rfl,trivial⟩
  ·conv=>whnf
   refine cond_dt (by omega) ?_
   conv=>whnf
   refine sd_d (by omega) ?_
   conv=>whnf
   refine sd_d (by omega) ?_
   conv=>whnf
   refine sd_d (by omega) ?_
   conv=>whnf
   refine sd_d (by omega) ?_
   conv=>whnf
   refine callv_data (dbl (b*2^5) (b*2^6) (by omega) (by omega)) ?_
   conv=>whnf
   refine sd_d (by omega) ?_
   conv=>whnf
   refine safe_intro (by kernel_rfl) ?_
   conv=>whnf
   refine sd_d (by omega) ?_
   conv=>whnf
   refine ⟨7,⟨by omega,by omega⟩,by omega,weak_r ⟨⟨rfl, ?_⟩,trivial⟩ ⟨rfl,rfl,rfl,rfl,rfl,rfl,trivial⟩⟩
   exact ⟨rfl,rfl,rfl,rfl,rfl,rfl,rfl,rfl,trivial⟩
  ·conv=>whnf
   refine cond_dt (by omega) ?_
   conv=>whnf
   refine sd_d (by omega) ?_
   conv=>whnf
   refine sd_d (by omega) ?_
   conv=>whnf
   refine sd_d (by omega) ?_
   conv=>whnf
   refine sd_d (by omega) ?_
   conv=>whnf
   refine callv_data (dbl (b*2^6) (b*2^7) (by omega) (by omega)) ?_
   conv=>whnf
   refine sd_d (by omega) ?_
   conv=>whnf
   refine safe_intro (by kernel_rfl) ?_
   conv=>whnf
   refine sd_d (by omega) ?_
   conv=>whnf
   refine ⟨8,⟨by omega,by omega⟩,by omega,weak_r ⟨⟨rfl, ?_⟩,trivial⟩ ⟨rfl,rfl,rfl,rfl,rfl,rfl,trivial⟩⟩
   exact ⟨rfl,rfl,rfl,rfl,rfl,rfl,rfl,rfl,trivial⟩
end Go.Nv
end
