import Derived.Test.YtdjbkccoofcnjaaGreatNvC2
import Derived.Test.YtdjbkccoofcnjaaGreatNvP1
set_option linter.all false
set_option maxRecDepth 100000
section
namespace Go.Nv
open Go.Proofs Nw
def dg1b(b0 b1 b3 b4 b5:B)(m R V i k:Nat)(g r:Nat)(b:Bool):St:=⟨fr 194 [(0,.own 2 0),(1,.d (.l (us (ln V)))),(2,.d (i64 i)),(7,.d (i64 k)),(9,.d (u64 g)),(10,.d (u64 r)),(82,.d (.v (.bool b)))], [b0,b1,.row 0 171 1 4 (us (dl m R)),b3,b4,b5]⟩
theorem digit2(b0 b1 b3 b4 b5:B){m R V i k s:Nat}(h:Dg m R V i k s){c:Code}(hc:Tryz.f300.body=some c)(K:Ex→St→Prop)(p0:Nat×Nat)(hp0:p0.1*(V/4294967296^(k-1))+p0.2=s/4294967296^(k-1)∧s/V≤p0.1):
  goL Tryz.prog tbl (fun t=>false) (((fl c).drop 4).take 1) (dg1 b0 b1 b3 b4 b5 m R V i k p0.1 p0.2)
   (lpX (fun st'=> ∃g:Nat,(s/V≤g∧g≤s/V+1∧g<4294967296)∧Weak st' (dg2 b0 b1 b3 b4 b5 m R V i k g)) K):=by
 have hru:=h.ru
 have lv:=h.lv
 have hk:=h.hk
 have hm:=h.hm
 have hms:=h.hms
 have hn:=h.hn
 obtain ⟨g1,g2,g3,g4,g5,g6⟩:=h.st
 have hV0:0<V:=by
  rcases Nat.eq_zero_or_pos V with h|h
  ·rw [h] at g1;simp at g1
  ·exact h
 have hgs:=fun g r he hc=>gs_down (S:=s) (V:=V) (k:=k) (g:=g) (r:=r) hk hV0 g3 he hc
 have hge:=fun g r he hg hc=>gs_end (S:=s) (V:=V) (k:=k) (g:=g) (r:=r) hk hn he hg hc
 have hW1:=h.W (k-1)
 have hW2:=h.W (k-2)
 have hU2:=h.U (k-2)
 rw [h.v1] at hW1
 clear hn
 generalize hX:V/4294967296^(k-1)=x at*
 generalize hT:s/4294967296^(k-1)=top at*
 generalize hQ:s/V=q at*
 generalize hY:V/4294967296^(k-2)%4294967296=y at*
 generalize hZ:s/4294967296^(k-2)%4294967296=z at*
 have hy:y<4294967296:=by rw [←hY];exact Nat.mod_lt _ (by omega)
 have hz:z<4294967296:=by rw [←hZ];exact Nat.mod_lt _ (by omega)
 have hr: ∀g r:Nat,g*x+r=top→q≤g→r<8589934592:=by
  intro g r he hg
  have h1:=Nat.mul_le_mul_right x hg
  have h2:(q+1)*(x+1)=q*x+q+x+1:=by grind
  omega
 cases hc
 conv=>whnf
 refine loop_ok (fun p=>dg1 b0 b1 b3 b4 b5 m R V i k p.1 p.2) (fun p=>p.1*x+p.2=top∧q≤p.1) (fun p=>p.1) p0 hp0 (Weak.refl _) ?_
 rintro ⟨g,r⟩ ⟨he,hg⟩
 replace he:g*x+r=top:=he
 replace hg:q≤g:=hg
 have hrr:=hr g r he hg
 have hgt:g≤top:=by have:=Nat.le_mul_of_pos_right g (show 0<x by omega);omega
 refine ok_cut 1 (fun t=>false) (dg1b b0 b1 b3 b4 b5 m R V i k g r) (fun b:Bool=>(b=true→(4294967296≤g∨r*4294967296+z<g*y))∧(b=false→g≤q+1∧g<4294967296)) mixed tOk (by decide) ?_ ?_
 ·show goL _ _ _ _ (dg1 b0 b1 b3 b4 b5 m R V i k g r) _
  conv=>whnf
  refine sd_d (by omega) ?_
  conv=>whnf
  have sg1:=sh32 g
  have sr1:=sh32 r
  refine cond_d (fun h1=> ?_) (fun h1=> ?_)
  ·conv=>whnf
   refine safe_intro (by kernel_rfl) ?_
   conv=>whnf
   have hcc:4294967296≤g∨r*4294967296+z<g*y:= .inl (by omega)
   refine ⟨true,⟨fun _=>hcc,nofun⟩, ?_⟩
   exact weak_x ⟨eqBP_refl _,eqBP_refl _,⟨rfl,rfl,rfl,rfl,rfl⟩,eqBP_refl _,eqBP_refl _,eqBP_refl _,trivial⟩ ⟨trivial,rfl,rfl,rfl,rfl,rfl,rfl,trivial⟩
  ·conv=>whnf
   refine sd_d (by omega) ?_
   conv=>whnf
   have hg32:g<4294967296:=by omega
   refine cond_e (fun h2=> ?_) (fun h2=> ?_)
   ·conv=>whnf
    have hr32:r<4294967296:=by omega
    refine sd_d (by omega) ?_
    conv=>whnf
    refine idx_intro _ (hW2 _ (by omega) (by omega)) (by omega) (us_uni _) ?_
    conv=>whnf
    refine sd_d (by omega) ?_
    conv=>whnf
    refine sd_d (by omega) ?_
    conv=>whnf
    refine sd_d (by omega) ?_
    conv=>whnf
    refine sd_du (by omega) (us_uni _) ?_
    conv=>whnf
    refine rld_intro (i:=i+(k-2)) (r:=0) _ _ (hU2 _ rfl (by omega)) (by omega) (by omega) (us_uni _) rfl ?_
    conv=>whnf
    rw [top64r hr32 hz]
    have hgy:=Nat.mul_le_mul (show g≤4294967295 by omega) (show y≤4294967295 by omega)
    have e3:(g:Int)*((y:Int)%18446744073709551616)%18446744073709551616=((g*y:Nat):Int):=by
     rw [show (y:Int)%18446744073709551616=y by omega]
     have:(g:Int)*(y:Int)=((g*y:Nat):Int):=by push_cast;rfl
     rw [this];omega
    rw [e3]
    refine safe_intro (by kernel_rfl) ?_
    conv=>whnf
    refine ⟨bz (decide (((g*y:Nat):Int)>((r*4294967296+z:Nat):Int))),⟨fun hb=> ?_,fun hb=> ?_⟩, ?_⟩
    ·rw [bz_eq] at hb
     have:=of_decide_eq_true hb
     exact .inr (by omega)
    ·rw [bz_eq] at hb
     have:=of_decide_eq_false hb
     exact ⟨hge g r he hg32 (.inr (by omega)),hg32⟩
    ·exact weak_x ⟨eqBP_refl _,eqBP_refl _,⟨rfl,rfl,rfl,rfl,rfl⟩,eqBP_refl _,eqBP_refl _,eqBP_refl _,trivial⟩ ⟨trivial,rfl,rfl,rfl,rfl,rfl,rfl,trivial⟩
   ·conv=>whnf
    refine safe_intro (by kernel_rfl) ?_
    conv=>whnf
    refine ⟨false,⟨nofun,fun _=>⟨hge g r he hg32 (.inl (by omega)),hg32⟩⟩, ?_⟩
    exact weak_x ⟨eqBP_refl _,eqBP_refl _,⟨rfl,rfl,rfl,rfl,rfl⟩,eqBP_refl _,eqBP_refl _,eqBP_refl _,trivial⟩ ⟨trivial,rfl,rfl,rfl,rfl,rfl,rfl,trivial⟩
 ·rintro b ⟨hbt,hbf⟩
  refine okL_go mixed tOk (mu:=fun t=>false) ?_
  cases b with
  |false=>
   conv=>whnf
   exact ⟨g,⟨hg,(hbf rfl).1,(hbf rfl).2⟩,weak_x ⟨eqBP_refl _,eqBP_refl _,⟨rfl,rfl,rfl,rfl,rfl⟩,eqBP_refl _,eqBP_refl _,eqBP_refl _,trivial⟩ ⟨trivial,rfl,rfl,rfl,rfl,trivial⟩⟩
  |true=>
   have hqg:q<g:=hgs g r he (hbt rfl)
   conv=>whnf
   refine sd_d (by omega) ?_
   conv=>whnf
   refine idx_intro _ (hW1 _ (by omega) (by omega)) (by omega) (us_uni _) ?_
   conv=>whnf
   refine sd_d (by omega) ?_
   conv=>whnf
   have e1:((g:Int)-1)%18446744073709551616=((g-1:Nat):Int):=by omega
   have e2:((r:Int)+(x:Int)%18446744073709551616)%18446744073709551616=((r+x:Nat):Int):=by omega
   rw [e1,e2]
   have he':(g-1)*x+(r+x)=top:=by
    have:g*x=(g-1)*x+x:=by
     conv=>lhs;rw [show g=g-1+1 by omega]
     rw [Nat.add_mul,Nat.one_mul]
    omega
   have sg2:=sh32 (g-1)
   have sr2:=sh32 (r+x)
   refine cond_d (fun h5=> ?_) (fun h5=> ?_)
   ·conv=>whnf
    refine sd_d (by omega) ?_
    conv=>whnf
    refine cond_e (fun h6=> ?_) (fun h6=> ?_)<;>conv=>whnf
    ·refine ⟨g-1,⟨by omega, ?_,by omega⟩, ?_⟩
     ·exact hge (g-1) (r+x) he' (by omega) (.inl (by omega))
     ·exact weak_x ⟨eqBP_refl _,eqBP_refl _,⟨rfl,rfl,rfl,rfl,rfl⟩,eqBP_refl _,eqBP_refl _,eqBP_refl _,trivial⟩ ⟨trivial,rfl,rfl,rfl,rfl,trivial⟩
    ·refine ⟨(g-1,r+x),⟨he',by simp only;omega⟩,by simp only;omega, ?_⟩
     exact weak_x ⟨eqBP_refl _,eqBP_refl _,⟨rfl,rfl,rfl,rfl,rfl⟩,eqBP_refl _,eqBP_refl _,eqBP_refl _,trivial⟩ ⟨trivial,rfl,rfl,rfl,rfl,rfl,trivial⟩
   ·conv=>whnf
    refine ⟨(g-1,r+x),⟨he',by simp only;omega⟩,by simp only;omega, ?_⟩
    exact weak_x ⟨eqBP_refl _,eqBP_refl _,⟨rfl,rfl,rfl,rfl,rfl⟩,eqBP_refl _,eqBP_refl _,eqBP_refl _,trivial⟩ ⟨trivial,rfl,rfl,rfl,rfl,rfl,trivial⟩
def dD(s k g V:Nat):Nat:=s+4294967296^(k+1)-g*V
def dg3(b0 b1 b3 b4 b5:B)(m R V i k s g j:Nat):St:=⟨fr 194 [(0,.own 2 0),(1,.d (.l (us (ln V)))),(2,.d (i64 i)),(7,.d (i64 k)),(9,.d (u64 g)),(11,.d (u64 (mulc g V j))),(12,.d (u32 (bor (s+4294967296^(k+1)) (g*V) j))),(101,.d (.l (us (ln V)))),(102,.d (i64 k)),(103,.d (i64 j))], [b0,b1,.row 0 171 1 4 (us (dl m (mix R (dD s k g V) i j))),b3,b4,b5]⟩
theorem digit3(b0 b1 b3 b4 b5:B){m R V i k s g:Nat}(h:Dg m R V i k s)(hg:g<4294967296){c:Code}(hc:Tryz.f300.body=some c)(K:Ex→St→Prop):
  goL Tryz.prog tbl (fun t=>false) (((fl c).drop 5).take 3) (dg2 b0 b1 b3 b4 b5 m R V i k g)
   (lpX (fun st'=> ∃j:Nat,j=k∧Weak st' (dg3 b0 b1 b3 b4 b5 m R V i k s g j)) K):=by
 have lv:=h.lv
 have hk:=h.hk
 have hm:=h.hm
 have hms:=h.hms
 have hP:g*V≤s+4294967296^(k+1):=by
  have h1:g*V≤4294967296*4294967296^k:=Nat.mul_le_mul (by omega) (Nat.le_of_lt h.hV)
  rw [Nat.pow_succ,Nat.mul_comm (4294967296^k)]
  omega
 cases hc
 conv=>whnf
 refine loop_intro (fun t=>false) (dg3 b0 b1 b3 b4 b5 m R V i k s g) (fun j=>j≤k) (fun j=>k-j) 0 mixed tOk (Nat.zero_le _) ?_ ?_
 ·refine weak_x ⟨eqBP_refl _,eqBP_refl _,⟨rfl,rfl,rfl,rfl, ?_⟩,eqBP_refl _,eqBP_refl _,eqBP_refl _,trivial⟩ ⟨trivial,rfl,rfl, ?_, ?_, ?_, ?_,rfl, ?_,rfl,trivial⟩
  ·rw [mix_zero]
  ·conv=>whnf
  ·conv=>whnf
  ·conv=>whnf
   rw [mulc_zero]
   rfl
  ·conv=>whnf
   rw [bor_zero]
   rfl
  ·conv=>whnf
   rw [h.lv]
 ·intro j hj
  have hru:(us (dl m (mix R (dD s k g V) i j))).length=m:=by rw [us_length,dl_length]
  conv=>whnf
  have hv:=mlt (V/4294967296^j)
  have hu:=mlt (s/4294967296^j)
  have hl:=mulc_lt (V:=V) (j:=j) hg
  have hlow:=mulc_low g V j
  have hhigh:=mulc_high g V j
  have hy:=mlt (g*V/4294967296^j)
  have hbo:=bor_le (s+4294967296^(k+1)) (g*V) j
  have hd:=sub_dig (s+4294967296^(k+1)) (g*V) j hP
  have hs:=bor_step (s+4294967296^(k+1)) (g*V) j
  have hU:(us (dl m (mix R (dD s k g V) i j)))[i+j]? =some (u32 ((s/4294967296^j%4294967296:Nat):Int)):=by
   have:=us_get (dl_get (m:=m) (mix R (dD s k g V) i j) (i:=i+j) (by omega))
   rwa [mix_get,Nat.pow_add, ←Nat.div_div_eq_div_mul,h.hs] at this
  rw [addB_dig hj] at hd hs
  generalize hmu:mulc g V j=mu at*
  refine cond_d (fun h2=> ?_) (fun h2=> ?_)
  ·conv=>whnf
   refine idx_intro _ (h.W j _ (by omega) (by omega)) (by omega) (us_uni _) ?_
   conv=>whnf
   have hgv:((g:Int)*((((V/4294967296^j%4294967296:Nat):Int))%18446744073709551616))=((g*(V/4294967296^j%4294967296):Nat):Int):=by
    rw [show (((V/4294967296^j%4294967296:Nat):Int))%18446744073709551616=((V/4294967296^j%4294967296:Nat):Int) by omega]
    exact (Int.natCast_mul g _).symm
   have hacc:((mu:Int)+(g:Int)*((((V/4294967296^j%4294967296:Nat):Int))%18446744073709551616)%18446744073709551616)%18446744073709551616=((mu+g*(V/4294967296^j%4294967296):Nat):Int):=by
    rw [hgv]
    clear hlow hhigh hgv
    generalize g*(V/4294967296^j%4294967296)=w at*
    omega
   rw [hacc]
   refine sd_d (by omega) ?_
   conv=>whnf
   refine sd_d (by omega) ?_
   conv=>whnf
   refine sd_du (by omega) (us_uni _) ?_
   conv=>whnf
   refine rld_intro (i:=i+j) (r:=0) _ _ hU (by omega) (by omega) (us_uni _) rfl ?_
   conv=>whnf
   refine call_eq rfl rfl (sub32_c ((s/4294967296^j%4294967296:Nat):Int) ((g*V/4294967296^j%4294967296:Nat):Int) (bor (s+4294967296^(k+1)) (g*V) j:Nat) (by omega) (by omega) (by omega)) ?_ ?_
   ·conv=>whnf
    have ha:(((mu+g*(V/4294967296^j%4294967296):Nat):Int))%4294967296=((g*V/4294967296^j%4294967296:Nat):Int):=by
     rw [←hlow]
     generalize mu+g*(V/4294967296^j%4294967296)=w at*
     omega
    rw [ha]
    rfl
   conv=>whnf
   refine sd_du (by omega) (us_uni _) ?_
   conv=>whnf
   rw [show ((i:Int)+(j:Int)).toNat=i+j by omega,hd]
   refine rst_one (by omega) (us_val _) rfl ?_
   conv=>whnf
   have sh:=sh32 (mu+g*(V/4294967296^j%4294967296))
   rw [hhigh] at sh
   refine sd_d (by omega) ?_
   conv=>whnf
   refine sd_d (by omega) ?_
   conv=>whnf
   refine ⟨j+1,by omega,by omega, ?_⟩
   refine weak_x ⟨eqBP_refl _,eqBP_refl _,⟨rfl,rfl,rfl,rfl, ?_⟩,eqBP_refl _,eqBP_refl _,eqBP_refl _,trivial⟩ ⟨trivial,rfl,rfl,rfl,rfl, ?_, ?_,rfl,rfl,rfl,trivial⟩
   ·rw [←mix_set,us_set]
    rfl
   ·conv=>whnf
    rw [sh]
   ·conv=>whnf
    rw [hs]
    split<;>split<;>first|rfl|omega
  ·conv=>whnf
   refine ⟨j,by omega, ?_⟩
   exact weak_x ⟨eqBP_refl _,eqBP_refl _,⟨rfl,rfl,rfl,rfl,rfl⟩,eqBP_refl _,eqBP_refl _,eqBP_refl _,trivial⟩ ⟨trivial,rfl,rfl,rfl,rfl,by rw [hmu];rfl,rfl,rfl,rfl,rfl,trivial⟩
def dg4(b0 b1 b3 b4 b5:B)(m R V i k s g:Nat)(_:Unit):St:=⟨fr 194 [(0,.own 2 0),(1,.d (.l (us (ln V)))),(2,.d (i64 i)),(7,.d (i64 k)),(9,.d (u64 g)),(12,.d (u32 (bor (s+4294967296^(k+1)) (g*V) (k+1))))], [b0,b1,.row 0 171 1 4 (us (dl m (mix R (dD s k g V) i (k+1)))),b3,b4,b5]⟩
theorem digit4(b0 b1 b3 b4 b5:B){m R V i k s g:Nat}(h:Dg m R V i k s)(hg:g<4294967296){c:Code}(hc:Tryz.f300.body=some c)(K:Ex→St→Prop):
  goL Tryz.prog tbl (fun t=>false) (((fl c).drop 8).take 1) (dg3 b0 b1 b3 b4 b5 m R V i k s g k)
   (lpX (fun st'=> ∃u:Unit,True∧Weak st' (dg4 b0 b1 b3 b4 b5 m R V i k s g u)) K):=by
 have lv:=h.lv
 have hk:=h.hk
 have hm:=h.hm
 have hms:=h.hms
 have hP:g*V≤s+4294967296^(k+1):=Nat.le_of_lt (Nat.lt_of_lt_of_le (gV_lt hg h.hV) (Nat.le_add_left _ _))
 have hru:(us (dl m (mix R (dD s k g V) i k))).length=m:=by rw [us_length,dl_length]
 have hu:=mlt (s/4294967296^k)
 have hmu:mulc g V k=g*V/4294967296^k%4294967296:=by
  have:=mulc_le g V k
  rw [←mulc_end h.hV]
  omega
 have hy:=mlt (g*V/4294967296^k)
 have hbo:=bor_le (s+4294967296^(k+1)) (g*V) k
 have hd:=sub_dig (s+4294967296^(k+1)) (g*V) k hP
 have hs:=bor_step (s+4294967296^(k+1)) (g*V) k
 have hU:(us (dl m (mix R (dD s k g V) i k)))[i+k]? =some (u32 ((s/4294967296^k%4294967296:Nat):Int)):=by
  have:=us_get (dl_get (m:=m) (mix R (dD s k g V) i k) (i:=i+k) (by omega))
  rwa [mix_get,Nat.pow_add, ←Nat.div_div_eq_div_mul,h.hs] at this
 rw [addB_dig (Nat.le_refl k)] at hd hs
 cases hc
 conv=>whnf
 refine sd_d (by omega) ?_
 conv=>whnf
 refine sd_d (by omega) ?_
 conv=>whnf
 refine sd_du (by omega) (us_uni _) ?_
 conv=>whnf
 refine rld_intro (i:=i+k) (r:=0) _ _ hU (by omega) (by omega) (us_uni _) rfl ?_
 conv=>whnf
 rw [hmu]
 refine call_eq rfl rfl (sub32_c ((s/4294967296^k%4294967296:Nat):Int) ((g*V/4294967296^k%4294967296:Nat):Int) (bor (s+4294967296^(k+1)) (g*V) k:Nat) (by omega) (by omega) (by omega)) ?_ ?_
 ·conv=>whnf
  have ha:((g*V/4294967296^k%4294967296:Nat):Int)%4294967296=((g*V/4294967296^k%4294967296:Nat):Int):=by omega
  rw [ha]
  rfl
 conv=>whnf
 refine sd_du (by omega) (us_uni _) ?_
 conv=>whnf
 rw [show ((i:Int)+(k:Int)).toNat=i+k by omega,hd]
 refine rst_one (by omega) (us_val _) rfl ?_
 conv=>whnf
 refine ⟨(),trivial, ?_⟩
 refine weak_x ⟨eqBP_refl _,eqBP_refl _,⟨rfl,rfl,rfl,rfl, ?_⟩,eqBP_refl _,eqBP_refl _,eqBP_refl _,trivial⟩ ⟨trivial,rfl,rfl,rfl,rfl, ?_,trivial⟩
 ·rw [←mix_set,us_set]
  rfl
 ·conv=>whnf
  rw [hs]
  split<;>split<;>first|rfl|omega
def dg5a(b0 b1 b3 b4 b5:B)(m R V i k s g:Nat)(b:Bool):St:=⟨fr 194 [(0,.own 2 0),(1,.d (.l (us (ln V)))),(2,.d (i64 i)),(7,.d (i64 k)),(9,.d (u64 g)),(154,.d (.v (.bool b)))], [b0,b1,.row 0 171 1 4 (us (dl m (mix R (dD s k g V) i (k+1)))),b3,b4,b5]⟩
theorem digit5a(b0 b1 b3 b4 b5:B){m R V i k s g:Nat}{c:Code}(hc:Tryz.f300.body=some c)(K:Ex→St→Prop):
  goL Tryz.prog tbl (fun t=>false) (((fl c).drop 9).take 1) (dg4 b0 b1 b3 b4 b5 m R V i k s g ())
   (lpX (fun st'=> ∃b:Bool,(b=true↔bor (s+4294967296^(k+1)) (g*V) (k+1)=0)∧Weak st' (dg5a b0 b1 b3 b4 b5 m R V i k s g b)) K):=by
 unfold dg4 dg5a
 generalize bor (s+4294967296^(k+1)) (g*V) (k+1)=bo
 generalize mix R (dD s k g V) i (k+1)=Rw
 cases hc
 conv=>whnf
 refine ⟨bz ((bo:Int)==0), ?_, ?_⟩
 ·rw [bz_eq]
  simp
 ·exact weak_x ⟨eqBP_refl _,eqBP_refl _,⟨rfl,rfl,rfl,rfl,rfl⟩,eqBP_refl _,eqBP_refl _,eqBP_refl _,trivial⟩ ⟨trivial,rfl,rfl,rfl,rfl,rfl,trivial⟩
def dg6(b0 b1 b3 b4 b5:B)(m R V i k g D:Nat)(_:Unit):St:=⟨fr 194 [(0,.own 2 0),(1,.d (.l (us (ln V)))),(2,.d (i64 i)),(7,.d (i64 k)),(9,.d (u64 g))], [b0,b1,.row 0 171 1 4 (us (dl m (R%4294967296^i+D*4294967296^i))),b3,b4,b5]⟩
theorem digit5b(b0 b1 b3 b4 b5:B){m R V i k s g:Nat}{b:Bool}(h:Dg m R V i k s)(hg:g<4294967296)(hgl:s/V≤g)(hgu:g≤s/V+1)(hbb:b=true↔bor (s+4294967296^(k+1)) (g*V) (k+1)=0){c:Code}(hc:Tryz.f300.body=some c)(K:Ex→St→Prop)
  (hK: ∀env,lk env 6= .d (u32 (s/V:Nat))→K .ret ⟨env, [b0,b1,.row 0 171 1 4 (us (dl m (R%4294967296^i+s%V*4294967296^i))),b3,b4,b5]⟩):
  goL Tryz.prog tbl (fun t=>false) (((fl c).drop 10).take 1) (dg5a b0 b1 b3 b4 b5 m R V i k s g b)
   (lpX (fun st'=> ∃u:Unit,(g=s/V+1∧dD s k g V<4294967296^(k+1)∧(dD s k g V+V)%4294967296^(k+1)=s%V)∧Weak st' (dg6 b0 b1 b3 b4 b5 m R V i k g (dD s k g V) u)) K):=by
 have lv:=h.lv
 have hk:=h.hk
 have hm:=h.hm
 have hms:=h.hms
 have hV0:0<V:=by
  rcases Nat.eq_zero_or_pos V with h0|h0
  ·have:=h.hR;rw [h0] at this;omega
  ·exact h0
 have hsB:s<4294967296^(k+1):=by
  rw [Nat.pow_succ]
  exact Nat.lt_trans h.hR (Nat.mul_lt_mul_of_pos_right h.hV (by omega))
 have hRB:R<4294967296^(i+(k+1)):=by
  have h1:=h.hs
  rw [Nat.pow_add,Nat.mul_comm]
  exact (Nat.div_lt_iff_lt_mul (bpos i)).1 (by omega)
 have hb:=bor_end hsB (gV_lt hg h.hV)
 have hrow:=mix_end (D:=dD s k g V) hRB
 rw [hb] at hbb
 have hD:dD s k g V=s+4294967296^(k+1)-g*V:=rfl
 unfold dg5a
 rw [hrow]
 cases b with
 |true=>
  have hlt: ¬s<g*V:=by
   intro hlt
   rw [if_pos hlt] at hbb
   simp at hbb
  obtain ⟨r1,r2⟩:=dres1 hV0 h.hV hgl hlt
  rw [←hD] at r2
  rw [r2]
  cases hc
  conv=>whnf
  refine hK _ ?_
  conv=>whnf
  rw [←r1]
  have hgm:(g:Int)%4294967296=g:=by omega
  show S.d (.v (.int .u32 ((g:Int)%4294967296)))=_
  rw [hgm]
 |false=>
  have hlt:s<g*V:=by
   by_cases hlt:s<g*V
   ·exact hlt
   ·rw [if_neg hlt] at hbb
    simp at hbb
  obtain ⟨r1,r2,r3⟩:=dres2 hV0 h.hV hgu hlt
  rw [←hD] at r2 r3
  rw [Nat.mod_eq_of_lt r2]
  cases hc
  conv=>whnf
  refine ⟨(),⟨r1,r2,r3⟩, ?_⟩
  exact weak_x ⟨eqBP_refl _,eqBP_refl _,⟨rfl,rfl,rfl,rfl,rfl⟩,eqBP_refl _,eqBP_refl _,eqBP_refl _,trivial⟩ ⟨trivial,rfl,rfl,rfl,rfl,trivial⟩
def dg5(b0 b1 b3 b4 b5:B)(m R V i k D g j:Nat):St:=⟨fr 194 [(0,.own 2 0),(1,.d (.l (us (ln V)))),(2,.d (i64 i)),(7,.d (i64 k)),(9,.d (u64 g)),(15,.d (u32 (car D V j))),(157,.d (.l (us (ln V)))),(158,.d (i64 k)),(159,.d (i64 j))], [b0,b1,.row 0 171 1 4 (us (dl m (mix (R%4294967296^i+D*4294967296^i) (D+V) i j))),b3,b4,b5]⟩
theorem digit6(b0 b1 b3 b4 b5:B){m R V i k s g D:Nat}(h:Dg m R V i k s){c:Code}(hc:Tryz.f300.body=some c)(K:Ex→St→Prop):
  goL Tryz.prog tbl (fun t=>false) (((fl c).drop 11).take 3) (dg6 b0 b1 b3 b4 b5 m R V i k g D ())
   (lpX (fun st'=> ∃j:Nat,j=k∧Weak st' (dg5 b0 b1 b3 b4 b5 m R V i k D g j)) K):=by
 have lv:=h.lv
 have hk:=h.hk
 have hm:=h.hm
 have hms:=h.hms
 cases hc
 conv=>whnf
 refine loop_intro (fun t=>false) (dg5 b0 b1 b3 b4 b5 m R V i k D g) (fun j=>j≤k) (fun j=>k-j) 0 mixed tOk (Nat.zero_le _) ?_ ?_
 ·refine weak_x ⟨eqBP_refl _,eqBP_refl _,⟨rfl,rfl,rfl,rfl, ?_⟩,eqBP_refl _,eqBP_refl _,eqBP_refl _,trivial⟩ ⟨trivial,rfl,rfl,rfl,rfl, ?_,rfl, ?_,rfl,trivial⟩
  ·rw [mix_zero]
  ·conv=>whnf
   simp [car,Nat.mod_one]
  ·conv=>whnf
   rw [h.lv]
 ·intro j hj
  have hru:(us (dl m (mix (R%4294967296^i+D*4294967296^i) (D+V) i j))).length=m:=by rw [us_length,dl_length]
  have hu:=mlt (D/4294967296^j)
  have hv:=mlt (V/4294967296^j)
  have hca:=car_le D V j
  obtain ⟨c1,c2⟩:=car_step D V j
  have hU:(us (dl m (mix (R%4294967296^i+D*4294967296^i) (D+V) i j)))[i+j]? =some (u32 ((D/4294967296^j%4294967296:Nat):Int)):=by
   have:=us_get (dl_get (m:=m) (mix (R%4294967296^i+D*4294967296^i) (D+V) i j) (i:=i+j) (by omega))
   rwa [mix_get,back_dig] at this
  conv=>whnf
  refine cond_d (fun h2=> ?_) (fun h2=> ?_)
  ·conv=>whnf
   refine idx_intro _ (h.W j _ (by omega) (by omega)) (by omega) (us_uni _) ?_
   conv=>whnf
   refine sd_d (by omega) ?_
   conv=>whnf
   refine sd_d (by omega) ?_
   conv=>whnf
   refine sd_du (by omega) (us_uni _) ?_
   conv=>whnf
   refine rld_intro (i:=i+j) (r:=0) _ _ hU (by omega) (by omega) (us_uni _) rfl ?_
   conv=>whnf
   refine call_data rfl rfl (add32_c ((D/4294967296^j%4294967296:Nat):Int) ((V/4294967296^j%4294967296:Nat):Int) (car D V j:Nat) (by omega) (by omega) (by omega)) ?_
   conv=>whnf
   refine sd_du (by omega) (us_uni _) ?_
   conv=>whnf
   have a1:(((D/4294967296^j%4294967296:Nat):Int)+((V/4294967296^j%4294967296:Nat):Int)+(car D V j:Nat))%4294967296=(((D+V)/4294967296^j%4294967296:Nat):Int):=by rw [←c1];omega
   have a2:(((D/4294967296^j%4294967296:Nat):Int)+((V/4294967296^j%4294967296:Nat):Int)+(car D V j:Nat))/4294967296=((car D V (j+1):Nat):Int):=by rw [←c2];omega
   rw [show ((i:Int)+(j:Int)).toNat=i+j by omega,a1]
   refine rst_one (by omega) (us_val _) rfl ?_
   conv=>whnf
   refine sd_d (by omega) ?_
   conv=>whnf
   refine ⟨j+1,by omega,by omega, ?_⟩
   refine weak_x ⟨eqBP_refl _,eqBP_refl _,⟨rfl,rfl,rfl,rfl, ?_⟩,eqBP_refl _,eqBP_refl _,eqBP_refl _,trivial⟩ ⟨trivial,rfl,rfl,rfl,rfl, ?_,rfl,rfl,rfl,trivial⟩
   ·rw [←mix_set,us_set]
   ·conv=>whnf
    rw [a2]
  ·conv=>whnf
   refine ⟨j,by omega, ?_⟩
   exact weak_x ⟨eqBP_refl _,eqBP_refl _,⟨rfl,rfl,rfl,rfl,rfl⟩,eqBP_refl _,eqBP_refl _,eqBP_refl _,trivial⟩ ⟨trivial,rfl,rfl,rfl,rfl,rfl,rfl,rfl,rfl,trivial⟩
def dg7(b0 b1 b3 b4 b5:B)(m Z q:Nat)(_:Unit):St:=⟨fr 194 [(6,.d (u32 q))], [b0,b1,.row 0 171 1 4 (us (dl m Z)),b3,b4,b5]⟩
theorem digit7(b0 b1 b3 b4 b5:B){m R V i k s g D:Nat}(h:Dg m R V i k s)(hg:g<4294967296)(hg2:g=s/V+1)(hD:D<4294967296^(k+1))(hD2:(D+V)%4294967296^(k+1)=s%V){c:Code}(hc:Tryz.f300.body=some c)(K:Ex→St→Prop):
  goL Tryz.prog tbl (fun t=>false) (((fl c).drop 14).take 2) (dg5 b0 b1 b3 b4 b5 m R V i k D g k)
   (lpX (fun st'=> ∃u:Unit,True∧Weak st' (dg7 b0 b1 b3 b4 b5 m (R%4294967296^i+s%V*4294967296^i) (s/V) u)) K):=by
 have lv:=h.lv
 have hk:=h.hk
 have hm:=h.hm
 have hms:=h.hms
 have hru:(us (dl m (mix (R%4294967296^i+D*4294967296^i) (D+V) i k))).length=m:=by rw [us_length,dl_length]
 have hu:=mlt (D/4294967296^k)
 have hca:=car_le D V k
 obtain ⟨c1,c2⟩:=car_step D V k
 have hVk:V/4294967296^k=0:=Nat.div_eq_of_lt h.hV
 rw [hVk] at c1
 have hU:(us (dl m (mix (R%4294967296^i+D*4294967296^i) (D+V) i k)))[i+k]? =some (u32 ((D/4294967296^k%4294967296:Nat):Int)):=by
  have:=us_get (dl_get (m:=m) (mix (R%4294967296^i+D*4294967296^i) (D+V) i k) (i:=i+k) (by omega))
  rwa [mix_get,back_dig] at this
 have hend:=back_end (R:=R) (E:=D+V) (i:=i) hD
 rw [hD2] at hend
 have a1:(((D/4294967296^k%4294967296:Nat):Int)+(car D V k:Nat))%4294967296=(((D+V)/4294967296^k%4294967296:Nat):Int):=by rw [←c1];omega
 have ag:((g:Int)-1)%18446744073709551616%4294967296=((s/V:Nat):Int):=by
  generalize s/V=q at*
  omega
 cases hc
 conv=>whnf
 refine sd_d (by omega) ?_
 conv=>whnf
 refine sd_du (by omega) (us_uni _) ?_
 conv=>whnf
 refine rld_intro (i:=i+k) (r:=0) _ _ hU (by omega) (by omega) (us_uni _) rfl ?_
 conv=>whnf
 refine sd_du (by omega) (us_uni _) ?_
 conv=>whnf
 rw [show ((i:Int)+(k:Int)).toNat=i+k by omega,a1]
 refine rst_one (by omega) (us_val _) rfl ?_
 conv=>whnf
 refine ⟨(),trivial, ?_⟩
 refine weak_x ⟨eqBP_refl _,eqBP_refl _,⟨rfl,rfl,rfl,rfl, ?_⟩,eqBP_refl _,eqBP_refl _,eqBP_refl _,trivial⟩ ⟨?_,trivial⟩
 ·rw [←hend, ←mix_set,us_set]
 ·conv=>whnf
  rw [ag]
theorem digit_ok(b0 b1 b3 b4 b5:B){m R V i k s:Nat}(h:Dg m R V i k s){c:Code}(hc:Tryz.f300.body=some c)(K:Ex→St→Prop)
  (hK: ∀env,lk env 6= .d (u32 (s/V:Nat))→K .ret ⟨env, [b0,b1,.row 0 171 1 4 (us (dl m (R%4294967296^i+s%V*4294967296^i))),b3,b4,b5]⟩):
  Ok Tryz.prog c ⟨fr 194 [(0,.own 2 0),(1,.d (.l (us (ln V)))),(2,.d (i64 i))], [b0,b1,.row 0 171 1 4 (us (dl m R)),b3,b4,b5]⟩ K:=by
 refine ok_cut 4 (fun t=>false) (fun p:Nat×Nat=>dg1 b0 b1 b3 b4 b5 m R V i k p.1 p.2) (fun p=>p.1*(V/4294967296^(k-1))+p.2=s/4294967296^(k-1)∧s/V≤p.1) mixed tOk (by cases hc;decide) (digit1 b0 b1 b3 b4 b5 h hc K) fun p hp=> ?_
 refine okL_cut 1 (fun t=>false) (dg2 b0 b1 b3 b4 b5 m R V i k) (fun g=>s/V≤g∧g≤s/V+1∧g<4294967296) mixed tOk (by cases hc;decide) (digit2 b0 b1 b3 b4 b5 h hc K p hp) ?_
 rintro g ⟨hg1,hg2,hg3⟩
 rw [List.drop_drop]
 refine okL_cut 3 (fun t=>false) (dg3 b0 b1 b3 b4 b5 m R V i k s g) (fun j=>j=k) mixed tOk (by cases hc;decide) (digit3 b0 b1 b3 b4 b5 h hg3 hc K) ?_
 rintro j rfl
 rw [List.drop_drop]
 refine okL_cut 1 (fun t=>false) (dg4 b0 b1 b3 b4 b5 m R V i j s g) (fun _=>True) mixed tOk (by cases hc;decide) (digit4 b0 b1 b3 b4 b5 h hg3 hc K) ?_
 rintro ⟨⟩-
 rw [List.drop_drop]
 refine okL_cut 1 (fun t=>false) (dg5a b0 b1 b3 b4 b5 m R V i j s g) _ mixed tOk (by cases hc;decide) (digit5a b0 b1 b3 b4 b5 hc K) ?_
 intro b hb
 rw [List.drop_drop]
 refine okL_cut 1 (fun t=>false) (dg6 b0 b1 b3 b4 b5 m R V i j g (dD s j g V)) _ mixed tOk (by cases hc;decide) (digit5b b0 b1 b3 b4 b5 h hg3 hg1 hg2 hb hc K hK) ?_
 rintro ⟨⟩ ⟨e1,e2,e3⟩
 rw [List.drop_drop]
 refine okL_cut 3 (fun t=>false) (dg5 b0 b1 b3 b4 b5 m R V i j (dD s j g V) g) (fun l=>l=j) mixed tOk (by cases hc;decide) (digit6 b0 b1 b3 b4 b5 h hc K) ?_
 rintro l rfl
 rw [List.drop_drop]
 refine okL_cut 2 (fun t=>false) (dg7 b0 b1 b3 b4 b5 m (R%4294967296^i+s%V*4294967296^i) (s/V)) (fun _=>True) mixed tOk (by cases hc;decide) (digit7 b0 b1 b3 b4 b5 h hg3 e1 e2 e3 hc K) ?_
 rintro ⟨⟩-
 refine okL_go mixed tOk (mu:=fun t=>false) ?_
 cases hc
 conv=>whnf
 exact hK _ rfl
end Go.Nv
end
section
namespace Go.Nv
open Go.Proofs Nw
theorem norm_b{b:Nat}(hb:0<b):32-blen (b/4294967296^((ln b).length-1)%4294967296)≤31∧2147483648*4294967296^((ln b).length-1)≤b*2^(32-blen (b/4294967296^((ln b).length-1)%4294967296))∧b*2^(32-blen (b/4294967296^((ln b).length-1)%4294967296))<4294967296^(ln b).length:=by
 have h1:=ln_low (a:=b) (by omega)
 have h2:=ln_high b
 have hl0:0<(ln b).length:=by
  rcases Nat.eq_zero_or_pos (ln b).length with h|h
  ·rw [h,Nat.pow_zero] at h2;omega
  ·exact h
 generalize hL:(ln b).length=L at*
 have hp:=bpos (L-1)
 have e:4294967296^L=4294967296*4294967296^(L-1):=by rw [←Nat.pow_succ'];congr 1;omega
 have ht1:1≤b/4294967296^(L-1):=(Nat.le_div_iff_mul_le hp).2 (by omega)
 have ht2:b/4294967296^(L-1)<4294967296:=(Nat.div_lt_iff_lt_mul hp).2 (by omega)
 rw [Nat.mod_eq_of_lt ht2]
 have hd:=Nat.div_add_mod b (4294967296^(L-1))
 have hm:=Nat.mod_lt b hp
 generalize hT:b/4294967296^(L-1)=t at*
 obtain ⟨l1,l2⟩:=blen_low (x:=t) (by omega)
 have l3:=blen_le (x:=t) (k:=32) ht2
 have l4:0<blen t:=by unfold blen;split<;>omega
 generalize hn:blen t=w at*
 have e1:2^(w-1)*2^(32-w)=2147483648:=by
  rw [←Nat.pow_add,show w-1+(32-w)=31 by omega]
 have e2:2^w*2^(32-w)=4294967296:=by
  rw [←Nat.pow_add,show w+(32-w)=32 by omega]
 refine ⟨by omega, ?_, ?_⟩
 ·have:=Nat.mul_le_mul_right (2^(32-w)) (Nat.mul_le_mul_right (4294967296^(L-1)) l1)
  rw [Nat.mul_right_comm,e1] at this
  refine Nat.le_trans this (Nat.mul_le_mul_right _ ?_)
  rw [Nat.mul_comm];omega
 ·have h5:b<2^w*4294967296^(L-1):=by
   refine Nat.lt_of_lt_of_le ?_ (Nat.mul_le_mul_right _ (show t+1≤2^w from l2))
   rw [Nat.add_mul,Nat.one_mul,Nat.mul_comm t]
   omega
  have h6:=Nat.mul_lt_mul_of_pos_right h5 (Nat.pow_pos (n:=32-w) (show 0<2 by omega))
  rw [Nat.mul_right_comm,e2] at h6
  omega
def dvSt(M la n V A x:Nat)(y:Int):St:=⟨fr 73 [(4,.own 0 0),(5,.own 1 0),(8,.d (i64 n)),(9,.own 2 0),(10,.d (.l (us (ln V)))),(11,.own 4 0),(12,.d (i64 y))],
 [.row 0 171 1 4 [],.row 0 171 1 4 [],.row 0 171 1 4 (us (dl (la+1) (A%(V*4294967296^x)))),.dead,.row 0 171 1 4 (us (dl M (A/(V*4294967296^x)*4294967296^x)))]⟩
structure Dv (a b M n V A:Nat):Prop where
 hb:0<b
 ha:(ln a).length<900000000000
 hab:b≤a
 hl2:2≤(ln b).length
 hlab:(ln b).length≤(ln a).length
 hn:n≤31
 hV1:2147483648*4294967296^((ln b).length-1)≤V
 hV2:V<4294967296^(ln b).length
 hlV:(ln V).length=(ln b).length
 hM:M=(ln a).length+1-(ln b).length
 hA:a*2^n=A
 hV:b*2^n=V
 hn':32-blen (b/4294967296^((ln b).length-1)%4294967296)=n
theorem dv_mk{a b:Nat}(hb:0<b)(ha:(ln a).length<900000000000)(hab:b≤a)(hl2:2≤(ln b).length): ∃M n V A,Dv a b M n V A:=by
 obtain ⟨hn31,hV1,hV2⟩:=norm_b hb
 generalize hn:32-blen (b/4294967296^((ln b).length-1)%4294967296)=n at*
 refine ⟨_,n,_,_,hb,ha,hab,hl2,ln_len_mono hab,hn31,hV1,hV2, ?_,rfl,rfl,rfl,hn⟩
 have h3:=ln_length_le hV2
 have h4:=ln_high (b*2^n)
 refine Nat.le_antisymm h3 ?_
 rcases Nat.lt_or_ge (ln (b*2^n)).length (ln b).length with h|h
 ·have h5:4294967296^(ln (b*2^n)).length≤4294967296^((ln b).length-1):=Nat.pow_le_pow_right (by omega) (by omega)
  have h6:=bpos ((ln b).length-1)
  omega
 ·exact h
section
variable {a b M n V A:Nat} (h:Dv a b M n V A)
include h
theorem Dv.V0:0<V:=by rw [←h.hV];exact Nat.mul_pos h.hb (Nat.pow_pos (by omega))
theorem Dv.AM:A<V*4294967296^M:=by
 have h6:=ln_high a
 have hl2:=h.hl2
 have hlab:=h.hlab
 have hM:=h.hM
 have h7:A<4294967296^(ln a).length*2147483648:=by
  rw [←h.hA]
  refine Nat.lt_of_lt_of_le (Nat.mul_lt_mul_of_pos_right h6 (Nat.pow_pos (by omega))) (Nat.mul_le_mul_left _ ?_)
  exact Nat.le_trans (Nat.pow_le_pow_right (by omega) h.hn) (by decide)
 have h8:=Nat.mul_le_mul_right (4294967296^M) h.hV1
 have h9:4294967296^((ln b).length-1)*4294967296^M=4294967296^(ln a).length:=by
  rw [←Nat.pow_add];congr 1;omega
 rw [Nat.mul_assoc,h9] at h8
 omega
end
theorem divide_c1{a b M n V A:Nat}(h:Dv a b M n V A){c:Code}(hc:Tryz.f228.body=some c)(K:Ex→St→Prop):
  goL Tryz.prog tbl (fun t=>false) ((fl c).take 9) (startX [.l (us (ln a)),.l (us (ln b))] 73) (lpX (fun st'=> ∃x:Unit,True∧Weak st' (dvSt M (ln a).length n V A M ((M:Int)-1))) K):=by
 have la:=us_length (ln a)
 have lb:=us_length (ln b)
 obtain ⟨hb,ha,hab,hl2,hlab,hn,hV1,hV2,hlV,hM,hA,hV,hn'⟩:=id h
 have hAM:=h.AM
 cases hc
 conv=>whnf
 refine call_data rfl rfl (compare_c a b (by omega) (by omega)) ?_
 conv=>whnf
 refine cond_df (by unfold cmpN;split<;>(try split)<;>omega) ?_
 conv=>whnf
 refine cond_e (fun h2=>by omega) (fun h2=> ?_)
 conv=>whnf
 refine sd_d (by omega) ?_
 conv=>whnf
 refine idx_intro _ (by rw [show (((us (ln b)).length:Int)-1).toNat=(ln b).length-1 by omega];exact ul_get (a:=b) (i:=(ln b).length-1) (by omega)) (by omega) (us_uni _) ?_
 conv=>whnf
 have htop:=mlt (b/4294967296^((ln b).length-1))
 refine call_data rfl rfl (lz32_c _ htop) ?_
 conv=>whnf
 rw [hn']
 refine call_fresh (bytes:=4) rfl rfl (shift_c a n hn (by omega)) ?_
 conv=>whnf
 refine call_fresh (bytes:=4) rfl rfl (shift_c b n hn (by omega)) ?_
 conv=>whnf
 refine call_frz 3 (call_eq rfl rfl (trim_c (dl ((ln b).length+1) (b*2^n)) (lim_dl _ _) (by rw [dl_length];omega)) rfl ?_)
 conv=>whnf
 have hlvV:lv (dl ((ln b).length+1) (b*2^n))=b*2^n:=by
  rw [lv_dl,Nat.mod_eq_of_lt]
  rw [hV]
  exact Nat.lt_trans hV2 (Nat.pow_lt_pow_right (by omega) (by omega))
 rw [hlvV,hV,hA]
 have lV:=us_length (ln V)
 have lu:=us_length (dl ((ln a).length+1) A)
 rw [dl_length] at lu
 refine sd_d (by omega) ?_
 conv=>whnf
 refine sd_d (by simp only [maxLen];omega) ?_
 conv=>whnf
 rw [show (((us (dl ((ln a).length+1) A)).length:Int)-((us (ln V)).length:Int)).toNat=M by omega,us_rep, ←dl_zero]
 have lq:=us_length (dl M 0)
 rw [dl_length] at lq
 refine sd_d (by omega) ?_
 conv=>whnf
 refine ⟨(),trivial, ?_⟩
 refine weak_r ?_ ?_<;>repeat' (first|exact trivial|exact rfl|apply And.intro)
 ·rw [Nat.mod_eq_of_lt hAM]
 ·rw [Nat.div_eq_of_lt hAM,Nat.zero_mul]
 ·conv=>whnf
  omega
theorem divide_c3{a b M n V A:Nat}(h:Dv a b M n V A){c:Code}(hc:Tryz.f228.body=some c):
  OkL Tryz.prog ((fl c).drop 10) (dvSt M (ln a).length n V A 0 (-1)) (FinK tbl Tryz.f228.results.toList [.l (us (ln (a/b))),.l (us (ln (a%b)))]):=by
 obtain ⟨hb,ha,hab,hl2,hlab,hn,hV1,hV2,hlV,hM,hA,hV,hn'⟩:=id h
 have hV0:=h.V0
 refine okL_go mixed tOk (mu:=fun t=>false) ?_
 cases hc
 conv=>whnf
 refine call_frz 4 (call_eq rfl rfl (trim_c (dl M (A/(V*4294967296^0)*4294967296^0)) (lim_dl _ _) (by rw [dl_length];omega)) rfl ?_)
 conv=>whnf
 refine call_frz 2 (call_eq rfl rfl (trim_c (dl ((ln a).length+1) (A%(V*4294967296^0))) (lim_dl _ _) (by rw [dl_length];omega)) rfl ?_)
 conv=>whnf
 have hR:A%V<4294967296^((ln a).length+1):=by
  refine Nat.lt_of_lt_of_le (Nat.lt_trans (Nat.mod_lt _ hV0) hV2) (Nat.pow_le_pow_right (by omega) (by omega))
 have hQ:A/V<4294967296^M:=by
  have:=h.AM
  exact (Nat.div_lt_iff_lt_mul hV0).2 (by rw [Nat.mul_comm];exact this)
 have e1:lv (dl ((ln a).length+1) (A%(V*4294967296^0)))=A%V:=by
  rw [lv_dl,Nat.pow_zero,Nat.mul_one,Nat.mod_eq_of_lt hR]
 have e2:lv (dl M (A/(V*4294967296^0)*4294967296^0))=A/V:=by
  rw [lv_dl,Nat.pow_zero,Nat.mul_one,Nat.mul_one,Nat.mod_eq_of_lt hQ]
 rw [e1,e2]
 have hlR:(ln (A%V)).length≤(ln b).length:=by
  have h1:=ln_len_mono (Nat.le_of_lt (Nat.mod_lt A hV0))
  omega
 refine call_data rfl rfl (unshift_c (A%V) n hn (by omega)) ?_
 conv=>whnf
 have e3:A%V/2^n=a%b:=by
  rw [←hA, ←hV,Nat.mul_mod_mul_right,Nat.mul_div_cancel _ (Nat.pow_pos (by omega))]
 have e4:A/V=a/b:=by
  rw [←hA, ←hV,Nat.mul_div_mul_right _ _ (Nat.pow_pos (by omega))]
 rw [e3,e4]
 refine ⟨?_, ?_⟩
 ·conv=>whnf
 ·conv=>whnf
  refine ⟨?_,trivial⟩
  conv=>whnf
end Go.Nv
end
section
namespace Go.Nv
open Go.Proofs Nw
theorem inlK_tmp{T:Tb}{r k:Nat}{dst:Option Tmp}{K:St→Prop}{st:St}{s:S}{cs:List S}(h:lk st.env r=s)(hg:tatX st.t k= .ghost cs)(hk:frc ⟨putx cs dst s,tputX st.t k .dead⟩ K):inlK T [.tmp r] k dst K .ret st:=by
 subst h
 unfold inlK
 simp only [resSL,resSx,hg]
 exact hk
theorem digit_call(b0 b1 b3 b4:B){m R V i k s:Nat}(h:Dg m R V i k s){env:List S}{x y z:Tmp}{dst:Option Tmp}{K:St→Prop}
  (h1:lk env x= .own 2 0) (h2:lk env y= .d (.l (us (ln V)))) {y':Int} (h3:lk env z= .d (i64 y')) (hy:y'=i)
  (hK:frc ⟨putx env dst (.d (u32 (s/V:Nat))), [b0,b1,.row 0 171 1 4 (us (dl m (R%4294967296^i+s%V*4294967296^i))),b3,b4,.dead]⟩ K):
  CallK Tryz.prog (.func 300) [.tmp x,.tmp y,.tmp z] dst ⟨env, [b0,b1,.row 0 171 1 4 (us (dl m R)),b3,b4]⟩ K:=by
 subst hy
 refine call_inl_ok mixed tOk (g:=300) (cap:= []) (fn:=Tryz.f300) (c:=_) rfl rfl rfl rfl ?_
 have e:mapX (evx (⟨env, [b0,b1,.row 0 171 1 4 (us (dl m R)),b3,b4]⟩:St).env) [Operand.tmp x,.tmp y,.tmp z] = [.own 2 0,.d (.l (us (ln V))),.d (i64 i)] :=by
  simp [mapX,evx,h1,h2,h3]
 rw [e]
 refine digit_ok b0 b1 b3 b4 (.ghost env) h rfl _ (fun env' h6=> ?_)
 refine inlK_tmp h6 rfl ?_
 exact hK
theorem divide_c2{a b M n V A:Nat}(h:Dv a b M n V A){c:Code}(hc:Tryz.f228.body=some c)(K:Ex→St→Prop):
  goL Tryz.prog tbl (fun t=>false) (((fl c).drop 9).take 1) (dvSt M (ln a).length n V A M ((M:Int)-1)) (lpX (fun st'=> ∃x:Unit,True∧Weak st' (dvSt M (ln a).length n V A 0 (-1))) K):=by
 obtain ⟨hb,ha,hab,hl2,hlab,hn,hV1,hV2,hlV,hM,hA,hV,hn'⟩:=id h
 have hV0:=h.V0
 cases hc
 conv=>whnf
 refine loop_intro (fun t=>false) (fun x:Nat=>dvSt M (ln a).length n V A x ((x:Int)-1)) (fun x=>x≤M) (fun x=>x) M mixed tOk (Nat.le_refl _) ?_ ?_
 conv=>whnf
 ·refine weak_r ?_ ?_<;>repeat' (first|exact trivial|exact rfl|apply And.intro)
 ·intro x hx
  rcases Nat.eq_zero_or_pos x with rfl|hx0
  ·conv=>whnf
   refine cond_df (by omega) ?_
   conv=>whnf
   refine ⟨(),trivial, ?_⟩
   refine weak_r ?_ ?_<;>repeat' (first|exact trivial|exact rfl|apply And.intro)
  ·obtain ⟨i,hi⟩: ∃i,x=i+1:=⟨x-1,by omega⟩
   conv=>whnf
   refine cond_dt (by omega) ?_
   conv=>whnf
   have hdg:Dg ((ln a).length+1) (A%(V*4294967296^x)) V i (ln b).length (A%(V*4294967296^x)/4294967296^i):=by
    subst hi
    exact ⟨hl2,by omega,by omega,hV2,hV1,hlV,rfl,long_lt hV0⟩
   refine digit_call _ _ _ _ hdg rfl rfl rfl (by omega) ?_
   conv=>whnf
   have lq:=us_length (dl M (A/(V*4294967296^x)*4294967296^x))
   rw [dl_length] at lq
   refine sd_du (by omega) (us_uni _) ?_
   conv=>whnf
   refine rst_one (by omega) (us_val _) rfl ?_
   conv=>whnf
   refine sd_d (by omega) ?_
   conv=>whnf
   refine ⟨i,by omega,by omega, ?_⟩
   refine weak_r ?_ ?_<;>repeat' (first|exact trivial|exact rfl|apply And.intro)
   ·rw [hi,long_r]
   ·rw [show ((x:Int)-1).toNat=i by omega,us_set,hi,long_q,dl_top (Nat.mod_lt _ (by omega))]
    congr 3
    rw [Nat.pow_succ, ←Nat.mul_assoc, ←Nat.div_div_eq_div_mul,Nat.mul_comm,Nat.div_add_mod]
   ·conv=>whnf
    omega
theorem divide_c(a b:Nat)(hb:0<b)(ha:(ln a).length<900000000000)(hbs:(ln b).length<900000000000):Fun Tryz.prog 228 [.l (us (ln a)),.l (us (ln b))] [.l (us (ln (a/b))),.l (us (ln (a%b)))] :=by
 have la:=us_length (ln a)
 have lb:=us_length (ln b)
 rcases Nat.lt_or_ge a b with hab|hab
 ·refine fun_of_go (fun t=>false) mixed tOk Tryz.func228 rfl rfl ?_
  conv=>whnf
  refine call_data rfl rfl (compare_c a b (by omega) (by omega)) ?_
  conv=>whnf
  refine cond_dt (by unfold cmpN;rw [if_pos hab];omega) ?_
  conv=>whnf
  rw [Nat.div_eq_of_lt hab,Nat.mod_eq_of_lt hab]
  refine ⟨?_, ?_⟩
  ·conv=>whnf
   rw [ln_zero]
   unfold us;rfl
  ·conv=>whnf
   refine ⟨?_,trivial⟩
   conv=>whnf
 rcases Nat.lt_or_ge 1 (ln b).length with hl|hl
 ·obtain ⟨M,n,V,A,h⟩:=dv_mk hb ha hab hl
  refine fun_of_okX mixed tOk (fn:=Tryz.f228) (c:=_) rfl rfl rfl ?_
  refine ok_cut 9 (fun t=>false) (fun _:Unit=>dvSt M (ln a).length n V A M ((M:Int)-1)) (fun _=>True) mixed tOk (by decide) (divide_c1 h rfl _) fun _ _=> ?_
  refine okL_cut 1 (fun t=>false) (fun _:Unit=>dvSt M (ln a).length n V A 0 (-1)) (fun _=>True) mixed tOk (by decide) (divide_c2 h rfl _) fun _ _=> ?_
  rw [List.drop_drop]
  exact divide_c3 h rfl
 ·have hl1:(ln b).length=1:=by
   rcases Nat.eq_zero_or_pos (ln b).length with h|h
   ·have:=ln_high b
    rw [h,Nat.pow_zero] at this
    omega
   ·omega
  have hb1:b<4294967296:=by
   have:=ln_high b
   rw [hl1,Nat.pow_one] at this
   exact this
  have hU:(us (ln b))[0]? =some (u32 (b:Int)):=by
   have:=ul_get (a:=b) (i:=0) (by omega)
   rwa [Nat.pow_zero,Nat.div_one,Nat.mod_eq_of_lt hb1] at this
  have hr32:a%b<4294967296:=Nat.lt_trans (Nat.mod_lt _ hb) hb1
  refine fun_of_go (fun t=>false) mixed tOk Tryz.func228 rfl rfl ?_
  conv=>whnf
  refine call_data rfl rfl (compare_c a b (by omega) (by omega)) ?_
  conv=>whnf
  refine cond_df (by unfold cmpN;split<;>(try split)<;>omega) ?_
  conv=>whnf
  refine cond_e (fun h2=> ?_) (fun h2=>by omega)
  conv=>whnf
  refine idx_intro _ hU (by omega) (us_uni _) ?_
  conv=>whnf
  refine call_data rfl rfl (short_c a b hb hb1 (by omega)) ?_
  conv=>whnf
  refine call_eq rfl rfl (trim_c [a%b] (by intro x hx;simp at hx;omega) (by simp)) (by unfold us;rfl) ?_
  conv=>whnf
  have hlv:lv [a%b] =a%b:=by simp [lv]
  rw [hlv]
  refine ⟨?_, ?_⟩
  ·conv=>whnf
  ·conv=>whnf
   refine ⟨?_,trivial⟩
   conv=>whnf
end Go.Nv
end
