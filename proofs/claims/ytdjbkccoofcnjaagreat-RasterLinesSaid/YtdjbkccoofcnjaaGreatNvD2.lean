import Derived.Test.YtdjbkccoofcnjaaGreatNvD1
set_option linter.all false
set_option maxRecDepth 100000
section
namespace Go.Nv
open Go.Proofs Nw
def ed(l:List P2)(i:Nat):P2×P2:=(ix l i,ix l (i+1))
theorem cyc_at{l:List P2}{i:Nat}(h:i<l.length):(eL (cyc l))[(i:Int).toNat]? =some (sD (ed l i).1 (ed l i).2):=by
 rw [Int.toNat_natCast,List.getElem?_map,List.getElem?_eq_getElem (by rw [cyc_len];exact h),cyc_get h]
 unfold ed
 rw [ix_lt h,ix_mod (show 0<l.length by omega)];rfl
def xB(l:List P2)(i k:Nat):Bool:=decide (i+2≤k)&&(!(decide (i=0)&&decide (k=l.length-1))&&mtB (ed l i).1 (ed l i).2 (ed l k).1 (ed l k).2)
@[irreducible] def crB(l:List P2):Bool:=(List.range l.length).any fun i=>(List.range l.length).any fun k=>xB l i k
theorem crB_t{l:List P2}{i k:Nat}(h1:i<l.length)(h2:k<l.length)(h:xB l i k=true):crB l=true:=by
 unfold crB
 exact List.any_eq_true.2 ⟨i,by simpa using h1,List.any_eq_true.2 ⟨k,by simpa using h2,h⟩⟩
theorem crB_f{l:List P2}(h: ∀i k,i<l.length→k<l.length→xB l i k=false):crB l=false:=by
 unfold crB
 rw [List.any_eq_false];intro i hi
 rw [Bool.not_eq_true,List.any_eq_false];intro k hk
 rw [h i k (by simpa using hi) (by simpa using hk)];simp
def crSt(l:List P2)(i:Nat):St:=⟨fr 49 [(3,.d (.l (eL (cyc l)))),(4,.d (i64 (eL (cyc l)).length)),(15,.d (i64 (eL (cyc l)).length)),(16,.d (i64 i))], []⟩
def crSt2(l:List P2)(i k:Nat):St:=⟨fr 49 [(3,.d (.l (eL (cyc l)))),(4,.d (i64 (eL (cyc l)).length)),(5,.d (i64 i)),(6,.d (i64 k)),(15,.d (i64 (eL (cyc l)).length)),(16,.d (i64 i))], []⟩
theorem ed_bp{l:List P2}{n:Nat}(hl: ∀p∈l,BP n p)(h:0<l.length)(i:Nat):BP n (ed l i).1∧BP n (ed l i).2:=⟨hl _ (ix_mem h),hl _ (ix_mem h)⟩
theorem crossing_c(l:List P2){n:Nat}(hl: ∀p∈l,BP n p)(hn:n<10000000)(hlen:l.length≤100000):Fun Tryz.prog 206 [.l (pL l)] [.v (.bool (crB l))] :=by
 have hll:(eL (cyc l)).length=l.length:=by simp [cyc_len]
 refine fun_of_go (fun t=>t==7) mixed tOk Tryz.func206 rfl rfl ?_
 conv=>whnf
 refine call_data rfl rfl (edges_c l hlen) ?_
 conv=>whnf
 refine loop_intro (fun t=>t==7) (fun i:Nat=>crSt l i) (fun i=>i≤l.length∧ ∀j k,j<i→k<l.length→xB l j k=false) (fun i=>l.length-i) 0 mixed tOk ⟨by omega,fun j k hj=>by omega⟩ ?_ ?_
 ·refine weak_r ?_ ?_<;>repeat' (first|exact trivial|exact rfl|apply And.intro)
 ·rintro i ⟨hi,hno⟩
  conv=>whnf
  refine cond_d (fun hlt=> ?_) (fun hge=> ?_)
  ·have hlt':i<l.length:=by omega
   have h0:0<l.length:=by omega
   conv=>whnf
   refine sd_d (by omega) ?_
   conv=>whnf
   refine loop_intro (fun t=>t==7) (fun k:Nat=>crSt2 l i k) (fun k=>i+2≤k∧ ∀j,j<k→j<l.length→xB l i j=false) (fun k=>l.length-k) (i+2) mixed tOk ⟨by omega,fun j hj _=> ?_⟩ ?_ ?_
   ·unfold xB;rw [decide_eq_false (by omega)];rfl
   ·refine weak_r ?_ ?_<;>repeat' (first|exact trivial|exact rfl|apply And.intro)
   ·rintro k ⟨hk,hnok⟩
    have step:k<l.length→xB l i k=false→ ∀j,j<k+1→j<l.length→xB l i j=false:=fun _ h j hj hjl=>by
     by_cases hjk:j=k
     ·subst hjk;exact h
     ·exact hnok j (by omega) hjl
    conv=>whnf
    refine cond_d (fun hlt2=> ?_) (fun hge2=> ?_)
    ·have hlt2':k<l.length:=by omega
     conv=>whnf
     refine cond_e (fun c1=> ?_) (fun c1=> ?_)
     ·conv=>whnf
      refine sd_d (by omega) ?_
      conv=>whnf
      refine cond_e (fun c2=> ?_) (fun c2=> ?_)
      ·have hx:xB l i k=false:=by unfold xB;rw [decide_eq_true (show i=0 by omega),decide_eq_true (show k=l.length-1 by omega)];simp
       conv=>whnf
       refine sd_d (by omega) ?_
       conv=>whnf
       refine ⟨k+1,⟨by omega,step hlt2' hx⟩,by omega, ?_⟩
       unfold crSt2;rw [Int.natCast_succ]
       refine weak_r ?_ ?_<;>repeat' (first|exact trivial|exact rfl|apply And.intro)
      ·have hz:xB l i k=mtB (ed l i).1 (ed l i).2 (ed l k).1 (ed l k).2:=by unfold xB;rw [decide_eq_true hk,decide_eq_false (show¬k=l.length-1 by omega),Bool.and_false];rfl
       conv=>whnf
       refine idx_intro (sD (ed l i).1 (ed l i).2) (cyc_at hlt') (by omega) (eL_uni _) ?_
       conv=>whnf
       refine idx_intro (sD (ed l k).1 (ed l k).2) (cyc_at hlt2') (by omega) (eL_uni _) ?_
       conv=>whnf
       refine callv_data (smeet_c (ed_bp hl h0 i).1 (ed_bp hl h0 i).2 (ed_bp hl h0 k).1 (ed_bp hl h0 k).2 (by omega)) ?_
       conv=>whnf
       refine safe_intro (by kernel_rfl) ?_
       conv=>whnf
       refine cond_intro (fun c3=> ?_) (fun c3=> ?_)
       ·rw [crB_t hlt' hlt2' (by rw [hz];exact c3)]
        conv=>whnf
        exact ⟨rfl,trivial⟩
       ·have hx:xB l i k=false:=by rw [hz];exact c3
        conv=>whnf
        refine sd_d (by omega) ?_
        conv=>whnf
        refine ⟨k+1,⟨by omega,step hlt2' hx⟩,by omega, ?_⟩
        unfold crSt2;rw [Int.natCast_succ]
        refine weak_dead 0 rfl ?_
        refine weak_r ?_ ?_<;>repeat' (first|exact trivial|exact rfl|apply And.intro)
     ·have hz:xB l i k=mtB (ed l i).1 (ed l i).2 (ed l k).1 (ed l k).2:=by unfold xB;rw [decide_eq_true hk,decide_eq_false (show¬i=0 by omega),Bool.false_and];rfl
      conv=>whnf
      refine idx_intro (sD (ed l i).1 (ed l i).2) (cyc_at hlt') (by omega) (eL_uni _) ?_
      conv=>whnf
      refine idx_intro (sD (ed l k).1 (ed l k).2) (cyc_at hlt2') (by omega) (eL_uni _) ?_
      conv=>whnf
      refine callv_data (smeet_c (ed_bp hl h0 i).1 (ed_bp hl h0 i).2 (ed_bp hl h0 k).1 (ed_bp hl h0 k).2 (by omega)) ?_
      conv=>whnf
      refine safe_intro (by kernel_rfl) ?_
      conv=>whnf
      refine cond_intro (fun c3=> ?_) (fun c3=> ?_)
      ·rw [crB_t hlt' hlt2' (by rw [hz];exact c3)]
       conv=>whnf
       exact ⟨rfl,trivial⟩
      ·have hx:xB l i k=false:=by rw [hz];exact c3
       conv=>whnf
       refine sd_d (by omega) ?_
       conv=>whnf
       refine ⟨k+1,⟨by omega,step hlt2' hx⟩,by omega, ?_⟩
       unfold crSt2;rw [Int.natCast_succ]
       refine weak_dead 0 rfl ?_
       refine weak_r ?_ ?_<;>repeat' (first|exact trivial|exact rfl|apply And.intro)
    ·conv=>whnf
     refine sd_d (by omega) ?_
     conv=>whnf
     refine ⟨i+1,⟨by omega,fun j k' hj hk'=> ?_⟩,by omega, ?_⟩
     ·by_cases hji:j=i
      ·subst hji;exact hnok k' (by omega) hk'
      ·exact hno j k' (by omega) hk'
     unfold crSt;rw [Int.natCast_succ]
     refine weak_r ?_ ?_<;>repeat' (first|exact trivial|exact rfl|apply And.intro)
  ·have:i=l.length:=by omega
   subst this
   rw [crB_f (fun i k hi hk=>hno i k hi hk)]
   conv=>whnf
   exact ⟨rfl,trivial⟩
@[irreducible] def rgE(l:List P2):Int:=
 if l.length<3∨64<l.length then 4
 else if 0≤fstI (flB l) (List.range l.length) then 12
 else if crB l=true then 13
 else if sgnI (tot crQ l/2)≤0∨(kf l l.length:Int)≠0 then 8
 else 0
def vP(p:RD×RD):P2:=(p.1.val,p.2.val)
def cP(p:P2):RD×RD:=(canon p.1,canon p.2)
@[irreducible] def rgR(l:List (RD×RD)):Int:=
 if l.length<3∨64<l.length then 4 else if l.all okR=true then rgE (l.map vP) else 1
theorem pR_cP(p:P2):pR (cP p)=pD p:=by unfold cP;show ptR (canon p.1) (canon p.2)=ptD p.1 p.2;unfold ptD ptR rneg rnum rden;rfl
theorem rL_can{l:List (RD×RD)}(h:l.all okR=true):rL l=pL (l.map vP):=by
 rw [List.all_eq_true] at h
 unfold rL pL
 rw [List.map_map]
 refine List.map_congr_left fun p hp=> ?_
 have:=h p hp
 unfold okR at this
 rw [decide_eq_true_eq,okP_zero] at this
 show pR p=pD (vP p)
 rw [←pR_cP]
 unfold cP vP
 rw [this.1,this.2]
theorem BP.szp{n:Nat}{p:P2}(h:BP n p)(hn:n<90000000000):SzP (cP p):=⟨sz_bd h.1 hn,sz_bd h.2 hn⟩
theorem okR_cP(p:P2):okR (cP p)=true:=by
 unfold okR cP
 exact decide_eq_true (okP_zero.2 ⟨by rw [val_canon],by rw [val_canon]⟩)
theorem vP_cP(p:P2):vP (cP p)=p:=by unfold vP cP;rw [val_canon,val_canon]
theorem rcheck_c(l:List (RD×RD)){n:Nat}(hz: ∀p∈l,SzP p)(hl: ∀p∈l,BP n (vP p))(hn:n<1000000)(hlen:l.length≤100000):Fun Tryz.prog 119 [.l (rL l)] [i64 (rgR l)] :=by
 have hll:(rL l).length=l.length:=by simp
 refine fun_of_go (fun t=>false) mixed tOk Tryz.func119 rfl rfl ?_
 conv=>whnf
 refine cond_d (fun h1=> ?_) (fun h1=> ?_)
 ·have e:rgR l=4:=by unfold rgR;rw [if_pos (by omega)]
  rw [e]
  conv=>whnf
  exact ⟨rfl,trivial⟩
 conv=>whnf
 refine cond_d (fun h2=> ?_) (fun h2=> ?_)
 ·have e:rgR l=4:=by unfold rgR;rw [if_pos (by omega)]
  rw [e]
  conv=>whnf
  exact ⟨rfl,trivial⟩
 conv=>whnf
 refine call_data rfl rfl (rcanon_c l (by omega) hz) ?_
 conv=>whnf
 refine cond_nb (fun h3=> ?_) (fun h3=> ?_)
 ·have e:rgR l=1:=by unfold rgR;rw [if_neg (by omega),h3];rfl
  rw [e]
  conv=>whnf
  exact ⟨rfl,trivial⟩
 have e0:rgR l=rgE (l.map vP):=by unfold rgR;rw [if_neg (by omega),if_pos h3]
 rw [e0,rL_can h3]
 have hm: ∀p∈l.map vP,BP n p:=fun p hp=>by
  obtain ⟨q,hq,rfl⟩:=List.mem_map.1 hp
  exact hl q hq
 have hml:(l.map vP).length=l.length:=List.length_map ..
 generalize hM:l.map vP=m at hm hml ⊢
 have r0:rgE m=if 0≤fstI (flB m) (List.range m.length) then 12 else if crB m=true then 13 else if sgnI (tot crQ m/2)≤0∨(kf m m.length:Int)≠0 then 8 else 0:=by
  unfold rgE;rw [if_neg (by omega)]
 rw [r0]
 conv=>whnf
 refine call_data rfl rfl (flat_c m hm (by omega) (by omega)) ?_
 conv=>whnf
 refine cond_d (fun h4=> ?_) (fun h4=> ?_)
 ·rw [if_pos h4]
  conv=>whnf
  exact ⟨rfl,trivial⟩
 rw [if_neg h4]
 conv=>whnf
 refine call_data rfl rfl (crossing_c m hm (by omega) (by omega)) ?_
 conv=>whnf
 refine cond_intro (fun h5=> ?_) (fun h5=> ?_)
 ·rw [if_pos h5]
  conv=>whnf
  exact ⟨rfl,trivial⟩
 rw [if_neg (by rw [h5];decide)]
 have hta:Bd (1000*(4*n+2)+1) (tot crQ m/2):=by
  have:=area_bd hm m.length (Nat.le_refl _)
  rw [tot_all] at this
  refine (this.div (bd_int 2 (n:=1) (by decide))).mono ?_
  have:m.length*(4*n+2)≤1000*(4*n+2):=Nat.mul_le_mul_right _ (by omega)
  omega
 conv=>whnf
 refine call_data rfl rfl (area_c m hm (by omega) (by omega)) ?_
 conv=>whnf
 refine call_data rfl rfl (sign_q (.mk hta (by omega))) ?_
 conv=>whnf
 refine cond_d (fun h6=> ?_) (fun h6=> ?_)
 ·rw [if_pos (.inl h6)]
  conv=>whnf
  exact ⟨rfl,trivial⟩
 conv=>whnf
 refine call_data rfl rfl (first_c m hm (by omega) (by omega)) ?_
 conv=>whnf
 refine cond_ne (fun h7=> ?_) (fun h7=> ?_)
 ·rw [if_pos (.inr h7)]
  conv=>whnf
  exact ⟨rfl,trivial⟩
 ·rw [if_neg (by rintro (h|h)<;>contradiction)]
  conv=>whnf
  exact ⟨rfl,trivial⟩
def abB(p q:P2):Bool:=decide (0<cmpI q.2 p.2)
theorem above_c{p q:P2}(hp:QP p)(hq:QP q):Fun Tryz.prog 219 [pD q,.p 0 (pD p).cells] [.v (.bool (abB p q))] :=by
 obtain ⟨x,y⟩:=p
 obtain ⟨u,v⟩:=q
 refine fun_of_go (fun t=>false) mixed tOk Tryz.func219 rfl rfl ?_
 conv=>whnf
 refine call_data rfl rfl (cmp_q hq.2 hp.2) ?_
 conv=>whnf
 refine ⟨?_,trivial⟩
 conv=>whnf
 rw [bz_eq];unfold abB;rfl
def swE(p:P2)(e:P2×P2):P2×P2:=if abB p e.1 then (e.2,e.1) else e
def odE(p:P2)(e:P2×P2):Bool:= !abB p (swE p e).1&&(abB p (swE p e).2&&decide (0<orI (swE p e).1 (swE p e).2 p))
def odF(p:P2)(out:Bool)(e:P2×P2):Bool:=if odE p e then !out else out
@[irreducible] def odB(l:List P2)(p:P2):Bool:=(cyc l).foldl (odF p) false
noncomputable def oddSt(l:List P2)(p:P2)(i:Nat):St:=
 ⟨fr 25 [(0,.own 2 0),(1,.d (.p 0 [.l (pL l)])),(5,.d (.l (pL l))),(6,.d (i64 (pL l).length)),(7,.d (i64 i))],
  [.box 232 [.d (.f 219 [.p 0 (pD p).cells])],.box 4 [.d (.v (.bool (((cyc l).take i).foldl (odF p) false)))],
  .loop .ready none #[12,13] (rfO Tryz.f124.body).1 (rfO Tryz.f124.body).2 (fr 38 [(3,.d (.p 0 (pD p).cells)),(5,.ptr 0 0 0),(6,.ptr 1 0 0)])]⟩
theorem odd_c(l:List P2)(p:P2){n:Nat}(hl: ∀p∈l,BP n p)(hp:BP n p)(hn:n<10000000)(hlen:l.length≤100000):Fun Tryz.prog 124 [.l (pL l),pD p] [.v (.bool (odB l p))] :=by
 have qp:=hp.q (by omega)
 refine fun_of_go (fun t=>t==5||t==6||t==7||t==8) mixed tOk Tryz.func124 rfl rfl ?_
 conv=>whnf
 refine call_data rfl rfl (redges_c l) ?_
 conv=>whnf
 refine range_intro (g:=262) (cap:= [.d (.p 0 [.l (pL l)])]) (fun t=>t==5||t==6||t==7||t==8) mixed tOk rfl rfl rfl rfl rfl ?_
 conv=>whnf
 refine loop_introD (fun t=>t==5||t==6||t==7||t==8||t==4) (fun i:Nat=>oddSt l p i) (fun i=>i≤l.length) (fun i=>l.length-i) 0 mixed tOk (by omega) ?_ ?_
 ·refine weak_l ?_ ?_<;>repeat' (first|exact trivial|exact rfl|apply And.intro)
 ·intro i hi
  conv=>whnf
  refine cond_d (fun hlt=> ?_) (fun hge=> ?_)
  ·have hlt':i<l.length:=by rw [pL_len] at hlt;omega
   have hm:=mod_lt' hlt'
   conv=>whnf
   refine idx_intro (pD l[i]) (pL_get hlt') (by omega) (pL_uni l) ?_
   conv=>whnf
   refine okc_drawY 10 _ (fun t=>t==5||t==6||t==7||t==8||t==4) (.tmp 12) [.tmp 13,.tmp 21] mixed tOk rfl rfl ⟨_,rfl⟩ (by kernel_rfl) ?_
   conv=>whnf
   refine sd_d (by omega) ?_
   conv=>whnf
   refine sd_d (by omega) ?_
   conv=>whnf
   refine idx_intro (pD (l[(i+1)%l.length]'hm)) (nx_get hlt') (nx_nn _ _) (pL_uni l) ?_
   conv=>whnf
   refine safe_intro (by kernel_rfl) ?_
   conv=>whnf
   refine call_yield (fun t=>t==5||t==6||t==7||t==8) mixed tOk rfl rfl rfl ?_
   conv=>whnf
   have b1:=hl l[i] (List.getElem_mem _)
   have b2:=hl (l[(i+1)%l.length]'hm) (List.getElem_mem _)
   have hcy:=cyc_take hlt'
   generalize l[i] =a at*
   generalize l[(i+1)%l.length]'hm=b at*
   have q1:=b1.q (by omega)
   have q2:=b2.q (by omega)
   have hstep:((cyc l).take (i+1)).foldl (odF p) false=odF p (((cyc l).take i).foldl (odF p) false) (a,b):=by rw [hcy,List.foldl_append];rfl
   generalize ((cyc l).take i).foldl (odF p) false=out at*
   refine call_data rfl rfl (above_c qp q1) ?_
   conv=>whnf
   refine cond_intro (fun c1=> ?_) (fun c1=> ?_)
   ·have hsw:swE p (a,b)=(b,a):=by unfold swE;rw [c1];rfl
    have e0:swE p (a,b)=(b,a):=hsw
    conv=>whnf
    refine call_data rfl rfl (above_c qp q2) ?_
    conv=>whnf
    refine cond_nb (fun c2=> ?_) (fun c2=> ?_)
    ·conv=>whnf
     refine call_data rfl rfl (above_c qp q1) ?_
     conv=>whnf
     refine cond_intro (fun c3=> ?_) (fun c3=> ?_)
     ·conv=>whnf
      refine call_data rfl rfl (orient_c b2.1 b2.2 b1.1 b1.2 hp.1 hp.2 (by omega)) ?_
      conv=>whnf
      refine cond_d (fun c4=> ?_) (fun c4=> ?_)
      ·have hz:odF p out (a,b)= !out:=by unfold odF odE;rw [e0,c2,c3,decide_eq_true c4];rfl
       conv=>whnf
       refine safe_intro (by kernel_rfl) ?_
       conv=>whnf
       refine sd_d (by omega) ?_
       conv=>whnf
       refine ⟨i+1,by omega,by omega, ?_⟩
       unfold oddSt
       rw [hstep,hz,Int.natCast_succ]
       refine weak_dead 3 rfl (weak_dead 4 rfl (weak_dead 5 rfl (weak_dead 6 rfl ?_)))
       refine weak_l ?_ ?_<;>repeat' (first|exact trivial|exact rfl|apply And.intro)
      ·have hz:odF p out (a,b)=out:=by unfold odF odE;rw [e0,c2,c3,decide_eq_false c4];rfl
       conv=>whnf
       refine safe_intro (by kernel_rfl) ?_
       conv=>whnf
       refine sd_d (by omega) ?_
       conv=>whnf
       refine ⟨i+1,by omega,by omega, ?_⟩
       unfold oddSt
       rw [hstep,hz,Int.natCast_succ]
       refine weak_dead 3 rfl (weak_dead 4 rfl (weak_dead 5 rfl (weak_dead 6 rfl ?_)))
       refine weak_l ?_ ?_<;>repeat' (first|exact trivial|exact rfl|apply And.intro)
     ·have hz:odF p out (a,b)=out:=by unfold odF odE;rw [e0,c2,c3];rfl
      conv=>whnf
      refine safe_intro (by kernel_rfl) ?_
      conv=>whnf
      refine sd_d (by omega) ?_
      conv=>whnf
      refine ⟨i+1,by omega,by omega, ?_⟩
      unfold oddSt
      rw [hstep,hz,Int.natCast_succ]
      refine weak_dead 3 rfl (weak_dead 4 rfl (weak_dead 5 rfl (weak_dead 6 rfl ?_)))
      refine weak_l ?_ ?_<;>repeat' (first|exact trivial|exact rfl|apply And.intro)
    ·have hz:odF p out (a,b)=out:=by unfold odF odE;rw [e0,c2];rfl
     conv=>whnf
     refine safe_intro (by kernel_rfl) ?_
     conv=>whnf
     refine sd_d (by omega) ?_
     conv=>whnf
     refine ⟨i+1,by omega,by omega, ?_⟩
     unfold oddSt
     rw [hstep,hz,Int.natCast_succ]
     refine weak_dead 3 rfl (weak_dead 4 rfl (weak_dead 5 rfl (weak_dead 6 rfl ?_)))
     refine weak_l ?_ ?_<;>repeat' (first|exact trivial|exact rfl|apply And.intro)
   ·have hsw:swE p (a,b)=(a,b):=by unfold swE;rw [c1];rfl
    have e0:swE p (a,b)=(a,b):=hsw
    conv=>whnf
    refine call_data rfl rfl (above_c qp q1) ?_
    conv=>whnf
    refine cond_nb (fun c2=> ?_) (fun c2=> ?_)
    ·conv=>whnf
     refine call_data rfl rfl (above_c qp q2) ?_
     conv=>whnf
     refine cond_intro (fun c3=> ?_) (fun c3=> ?_)
     ·conv=>whnf
      refine call_data rfl rfl (orient_c b1.1 b1.2 b2.1 b2.2 hp.1 hp.2 (by omega)) ?_
      conv=>whnf
      refine cond_d (fun c4=> ?_) (fun c4=> ?_)
      ·have hz:odF p out (a,b)= !out:=by unfold odF odE;rw [e0,c2,c3,decide_eq_true c4];rfl
       conv=>whnf
       refine safe_intro (by kernel_rfl) ?_
       conv=>whnf
       refine sd_d (by omega) ?_
       conv=>whnf
       refine ⟨i+1,by omega,by omega, ?_⟩
       unfold oddSt
       rw [hstep,hz,Int.natCast_succ]
       refine weak_dead 3 rfl (weak_dead 4 rfl (weak_dead 5 rfl (weak_dead 6 rfl ?_)))
       refine weak_l ?_ ?_<;>repeat' (first|exact trivial|exact rfl|apply And.intro)
      ·have hz:odF p out (a,b)=out:=by unfold odF odE;rw [e0,c2,c3,decide_eq_false c4];rfl
       conv=>whnf
       refine safe_intro (by kernel_rfl) ?_
       conv=>whnf
       refine sd_d (by omega) ?_
       conv=>whnf
       refine ⟨i+1,by omega,by omega, ?_⟩
       unfold oddSt
       rw [hstep,hz,Int.natCast_succ]
       refine weak_dead 3 rfl (weak_dead 4 rfl (weak_dead 5 rfl (weak_dead 6 rfl ?_)))
       refine weak_l ?_ ?_<;>repeat' (first|exact trivial|exact rfl|apply And.intro)
     ·have hz:odF p out (a,b)=out:=by unfold odF odE;rw [e0,c2,c3];rfl
      conv=>whnf
      refine safe_intro (by kernel_rfl) ?_
      conv=>whnf
      refine sd_d (by omega) ?_
      conv=>whnf
      refine ⟨i+1,by omega,by omega, ?_⟩
      unfold oddSt
      rw [hstep,hz,Int.natCast_succ]
      refine weak_dead 3 rfl (weak_dead 4 rfl (weak_dead 5 rfl (weak_dead 6 rfl ?_)))
      refine weak_l ?_ ?_<;>repeat' (first|exact trivial|exact rfl|apply And.intro)
    ·have hz:odF p out (a,b)=out:=by unfold odF odE;rw [e0,c2];rfl
     conv=>whnf
     refine safe_intro (by kernel_rfl) ?_
     conv=>whnf
     refine sd_d (by omega) ?_
     conv=>whnf
     refine ⟨i+1,by omega,by omega, ?_⟩
     unfold oddSt
     rw [hstep,hz,Int.natCast_succ]
     refine weak_dead 3 rfl (weak_dead 4 rfl (weak_dead 5 rfl (weak_dead 6 rfl ?_)))
     refine weak_l ?_ ?_<;>repeat' (first|exact trivial|exact rfl|apply And.intro)
  ·have:i=l.length:=by rw [pL_len] at hge;omega
   subst this
   conv=>whnf
   refine ⟨?_,trivial⟩
   conv=>whnf
   unfold odB
   rw [List.take_of_length_le (by rw [cyc_len];omega)]
theorem rL_cP(l:List P2):rL (l.map cP)=pL l:=by
 unfold rL pL
 rw [List.map_map]
 exact List.map_congr_left fun p _=>pR_cP p
theorem all_cP(l:List P2):(l.map cP).all okR=true:=by
 rw [List.all_eq_true];intro p hp
 obtain ⟨q,_,rfl⟩:=List.mem_map.1 hp
 exact okR_cP q
theorem vP_map(l:List P2):(l.map cP).map vP=l:=by
 rw [List.map_map]
 conv=>rhs;rw [←List.map_id l]
 exact List.map_congr_left fun p _=>vP_cP p
theorem rcheck_q(l:List P2){n:Nat}(hl: ∀p∈l,BP n p)(hn:n<1000000)(hlen:l.length≤100000):Fun Tryz.prog 119 [.l (pL l)] [i64 (rgE l)] :=by
 have h:=rcheck_c (l.map cP) (n:=n) (fun p hp=>by obtain ⟨q,hq,rfl⟩:=List.mem_map.1 hp;exact (hl q hq).szp (by omega))
  (fun p hp=>by obtain ⟨q,hq,rfl⟩:=List.mem_map.1 hp;rw [vP_cP];exact hl q hq) hn (by rw [List.length_map];exact hlen)
 rw [rL_cP] at h
 have e:rgR (l.map cP)=rgE l:=by
  unfold rgR
  rw [List.length_map,if_pos (all_cP l),vP_map]
  split
  ·rename_i hh;unfold rgE;rw [if_pos hh]
  ·rfl
 rwa [e] at h
theorem rcanon_q(l:List P2){n:Nat}(hl: ∀p∈l,BP n p)(hn:n<1000000)(hlen:l.length≤100000):Fun Tryz.prog 123 [.l (pL l)] [.v (.bool true)] :=by
 have h:=rcanon_c (l.map cP) (by rw [List.length_map];omega) (fun p hp=>by obtain ⟨q,hq,rfl⟩:=List.mem_map.1 hp;exact (hl q hq).szp (by omega))
 rw [rL_cP,all_cP] at h
 exact h
@[irreducible] def onB(l:List P2)(p:P2):Bool:=(cyc l).any fun e=>betB e.1 e.2 p
@[irreducible] def inV(l:List P2)(p:P2):Int:=if rgE l≠0 then 0 else if onB l p=true then 0 else if odB l p=true then 1 else-1
@[irreducible] def inE(l:List P2):Int:=if rgE l≠0 then 1 else 0
noncomputable def insSt(l:List P2)(p:P2)(i:Nat):St:=
 ⟨fr 25 [(0,.own 2 0),(1,.d (.p 0 [.l (pL l)])),(5,.d (.l (pL l))),(6,.d (i64 (pL l).length)),(7,.d (i64 i))],
  [.box 3 [.d (i64 0)],.box 35 [.d (i64 0)],
  .loop .ready none #[19,20] (rfO Tryz.f216.body).1 (rfO Tryz.f216.body).2 (fr 28 [(0,.d (.l (pL l))),(3,.d (.p 0 (pD p).cells)),(4,.ptr 0 0 0),(5,.ptr 1 0 0)])]⟩
theorem rinside_c(l:List P2)(p:P2){n:Nat}(hl: ∀p∈l,BP n p)(hp:BP n p)(hn:n<1000000)(hlen:l.length≤100000):Fun Tryz.prog 216 [.l (pL l),pD p] [i64 (inV l p),i64 (inE l)] :=by
 have qp:=hp.q (by omega)
 refine fun_of_go (fun t=>t==4||t==5||t==6||t==7) mixed tOk Tryz.func216 rfl rfl ?_
 conv=>whnf
 refine call_data rfl rfl (rcheck_q l hl hn hlen) ?_
 conv=>whnf
 refine cond_ne (fun h=> ?_) (fun h=> ?_)
 ·rw [show inV l p=0 by unfold inV;rw [if_pos h],show inE l=1 by unfold inE;rw [if_pos h]]
  conv=>whnf
  refine ⟨?_, ?_,trivial⟩
  ·conv=>whnf
  ·conv=>whnf
 conv=>whnf
 refine call_data rfl rfl (rcanon_q [p] (n:=n) (fun q hq=>by rw [List.mem_singleton.1 hq];exact hp) hn (by simp)) ?_
 conv=>whnf
 have e1:inE l=0:=by unfold inE;rw [if_neg (fun hh=>hh h)]
 have e2:inV l p=if onB l p=true then 0 else if odB l p=true then 1 else-1:=by unfold inV;rw [if_neg (fun hh=>hh h)]
 rw [e1,e2]
 refine call_data rfl rfl (redges_c l) ?_
 conv=>whnf
 refine range_intro (g:=262) (cap:= [.d (.p 0 [.l (pL l)])]) (fun t=>t==4||t==5||t==6||t==7) mixed tOk rfl rfl rfl rfl rfl ?_
 conv=>whnf
 refine loop_introD (fun t=>t==4||t==5||t==6||t==7) (fun i:Nat=>insSt l p i) (fun i=>i≤l.length∧((cyc l).take i).any (fun e=>betB e.1 e.2 p)=false) (fun i=>l.length-i) 0 mixed tOk ⟨by omega,rfl⟩ ?_ ?_
 ·refine weak_l ?_ ?_<;>repeat' (first|exact trivial|exact rfl|apply And.intro)
 ·rintro i ⟨hi,hno⟩
  conv=>whnf
  refine cond_d (fun hlt=> ?_) (fun hge=> ?_)
  ·have hlt':i<l.length:=by rw [pL_len] at hlt;omega
   have hm:=mod_lt' hlt'
   conv=>whnf
   refine idx_intro (pD l[i]) (pL_get hlt') (by omega) (pL_uni l) ?_
   conv=>whnf
   refine okc_drawY 10 _ (fun t=>t==4||t==5||t==6||t==7) (.tmp 12) [.tmp 13,.tmp 21] mixed tOk rfl rfl ⟨_,rfl⟩ (by kernel_rfl) ?_
   conv=>whnf
   refine sd_d (by omega) ?_
   conv=>whnf
   refine sd_d (by omega) ?_
   conv=>whnf
   refine idx_intro (pD (l[(i+1)%l.length]'hm)) (nx_get hlt') (nx_nn _ _) (pL_uni l) ?_
   conv=>whnf
   refine safe_intro (by kernel_rfl) ?_
   conv=>whnf
   refine call_yield (fun t=>t==4||t==5||t==6||t==7) mixed tOk rfl rfl rfl ?_
   conv=>whnf
   have b1:=hl l[i] (List.getElem_mem _)
   have b2:=hl (l[(i+1)%l.length]'hm) (List.getElem_mem _)
   have hcy:=cyc_take hlt'
   have hmem:(l[i],l[(i+1)%l.length]'hm)∈cyc l:=by rw [←cyc_get hlt'];exact List.getElem_mem _
   generalize l[i] =a at*
   generalize l[(i+1)%l.length]'hm=b at*
   refine call_data rfl rfl (between_c b1.1 b1.2 b2.1 b2.2 hp.1 hp.2 (by omega)) ?_
   conv=>whnf
   refine cond_intro (fun c1=> ?_) (fun c1=> ?_)
   ·have hon:onB l p=true:=by unfold onB;exact List.any_eq_true.2 ⟨_,hmem,c1⟩
    rw [if_pos hon]
    conv=>whnf
    refine safe_intro (by kernel_rfl) ?_
    conv=>whnf
    refine ⟨?_, ?_,trivial⟩
    ·conv=>whnf
    ·conv=>whnf
   ·conv=>whnf
    refine safe_intro (by kernel_rfl) ?_
    conv=>whnf
    refine sd_d (by omega) ?_
    conv=>whnf
    refine ⟨i+1,⟨by omega, ?_⟩,by omega, ?_⟩
    ·rw [hcy,List.any_append,hno];simp;exact c1
    unfold insSt
    rw [Int.natCast_succ]
    refine weak_dead 3 rfl (weak_dead 4 rfl (weak_dead 5 rfl (weak_dead 6 rfl ?_)))
    refine weak_l ?_ ?_<;>repeat' (first|exact trivial|exact rfl|apply And.intro)
  ·have:i=l.length:=by rw [pL_len] at hge;omega
   subst this
   rw [List.take_of_length_le (by rw [cyc_len];omega)] at hno
   have hon:onB l p=false:=by unfold onB;exact hno
   rw [hon]
   rw [if_neg (show¬false=true by decide)]
   conv=>whnf
   refine call_data rfl rfl (odd_c l p hl hp (by omega) hlen) ?_
   conv=>whnf
   refine cond_intro (fun c1=> ?_) (fun c1=> ?_)
   ·rw [if_pos c1]
    conv=>whnf
    refine ⟨?_, ?_,trivial⟩
    ·conv=>whnf
    ·conv=>whnf
   ·rw [if_neg (by rw [c1];decide)]
    conv=>whnf
    refine ⟨?_, ?_,trivial⟩
    ·conv=>whnf
    ·conv=>whnf
@[irreducible] def mtR(a b:List P2):Bool:=(cyc a).any fun e=>(cyc b).any fun f=>mtB e.1 e.2 f.1 f.2
def pmSt(a b:List P2)(i:Nat):St:=⟨fr 36 [(1,.d (.l (pL b))),(13,.d (.l (eL (cyc a)))),(14,.d (i64 (eL (cyc a)).length)),(15,.d (i64 i))], []⟩
def pmSt2(a b:List P2)(i k:Nat):St:=⟨fr 36 [(1,.d (.l (pL b))),(6,.ptr 0 0 0),(13,.d (.l (eL (cyc a)))),(14,.d (i64 (eL (cyc a)).length)),(15,.d (i64 i)),(20,.d (.l (eL (cyc b)))),(21,.d (i64 (eL (cyc b)).length)),(22,.d (i64 k))],
 [.box 46 ((sD (ed a i).1 (ed a i).2).cells.map .d)]⟩
theorem ed_mem{l:List P2}{i:Nat}(h:i<l.length):ed l i∈cyc l:=by
 have e:(cyc l)[i]'(by rw [cyc_len];exact h)=ed l i:=by
  rw [cyc_get h];unfold ed;rw [ix_lt h,ix_mod (show 0<l.length by omega)]
 rw [←e];exact List.getElem_mem _
theorem mem_ed{l:List P2}{e:P2×P2}(h:e∈cyc l): ∃i,i<l.length∧e=ed l i:=by
 obtain ⟨i,hi,rfl⟩:=List.getElem_of_mem h
 rw [cyc_len] at hi
 refine ⟨i,hi, ?_⟩
 rw [cyc_get hi];unfold ed;rw [ix_lt hi,ix_mod (show 0<l.length by omega)]
theorem pmeet_c(a b:List P2){n:Nat}(ha: ∀p∈a,BP n p)(hb: ∀p∈b,BP n p)(hn:n<10000000)(hla:a.length≤100000)(hlb:b.length≤100000):Fun Tryz.prog 208 [.l (pL a),.l (pL b)] [.v (.bool (mtR a b))] :=by
 have hlx:(eL (cyc a)).length=a.length:=by simp [cyc_len]
 have hly:(eL (cyc b)).length=b.length:=by simp [cyc_len]
 refine fun_of_go (fun t=>t==6||t==8||t==9) mixed tOk Tryz.func208 rfl rfl ?_
 conv=>whnf
 refine call_data rfl rfl (edges_c a hla) ?_
 conv=>whnf
 refine loop_intro (fun t=>t==6||t==8||t==9) (fun i:Nat=>pmSt a b i) (fun i=>i≤a.length∧ ∀j k,j<i→k<b.length→mtB (ed a j).1 (ed a j).2 (ed b k).1 (ed b k).2=false) (fun i=>a.length-i) 0 mixed tOk ⟨by omega,fun j k hj=>by omega⟩ ?_ ?_
 ·refine weak_r ?_ ?_<;>repeat' (first|exact trivial|exact rfl|apply And.intro)
 ·rintro i ⟨hi,hno⟩
  conv=>whnf
  refine cond_d (fun hlt=> ?_) (fun hge=> ?_)
  ·have hlt':i<a.length:=by omega
   conv=>whnf
   refine idx_intro (sD (ed a i).1 (ed a i).2) (cyc_at hlt') (by omega) (eL_uni _) ?_
   conv=>whnf
   refine call_data rfl rfl (edges_c b hlb) ?_
   conv=>whnf
   refine loop_intro (fun t=>t==6||t==8||t==9) (fun k:Nat=>pmSt2 a b i k) (fun k=>k≤b.length∧ ∀j,j<k→mtB (ed a i).1 (ed a i).2 (ed b j).1 (ed b j).2=false) (fun k=>b.length-k) 0 mixed tOk ⟨by omega,fun j hj=>by omega⟩ ?_ ?_
   ·refine weak_r ?_ ?_<;>repeat' (first|exact trivial|exact rfl|apply And.intro)
   ·rintro k ⟨hk,hnok⟩
    conv=>whnf
    refine cond_d (fun hlt2=> ?_) (fun hge2=> ?_)
    ·have hlt2':k<b.length:=by omega
     have h1:=ed_bp ha (show 0<a.length by omega) i
     have h2:=ed_bp hb (show 0<b.length by omega) k
     conv=>whnf
     refine idx_intro (sD (ed b k).1 (ed b k).2) (cyc_at hlt2') (by omega) (eL_uni _) ?_
     conv=>whnf
     refine call_data rfl rfl (smeet_c h1.1 h1.2 h2.1 h2.2 (by omega)) ?_
     conv=>whnf
     refine cond_intro (fun c3=> ?_) (fun c3=> ?_)
     ·have hx:mtR a b=true:=by unfold mtR;exact List.any_eq_true.2 ⟨_,ed_mem hlt',List.any_eq_true.2 ⟨_,ed_mem hlt2',c3⟩⟩
      rw [hx]
      conv=>whnf
      exact ⟨rfl,trivial⟩
     ·conv=>whnf
      refine sd_d (by omega) ?_
      conv=>whnf
      refine ⟨k+1,⟨by omega,fun j hj=> ?_⟩,by omega, ?_⟩
      ·by_cases hjk:j=k
       ·subst hjk;exact c3
       ·exact hnok j (by omega)
      unfold pmSt2;rw [Int.natCast_succ]
      refine weak_dead 1 rfl (weak_dead 2 rfl ?_)
      refine weak_r ?_ ?_<;>repeat' (first|exact trivial|exact rfl|apply And.intro)
    ·conv=>whnf
     refine sd_d (by omega) ?_
     conv=>whnf
     refine ⟨i+1,⟨by omega,fun j k' hj hk'=> ?_⟩,by omega, ?_⟩
     ·by_cases hji:j=i
      ·subst hji;exact hnok k' (by omega)
      ·exact hno j k' (by omega) hk'
     unfold pmSt;rw [Int.natCast_succ]
     refine weak_dead 0 rfl ?_
     refine weak_r ?_ ?_<;>repeat' (first|exact trivial|exact rfl|apply And.intro)
  ·have:i=a.length:=by omega
   subst this
   have hx:mtR a b=false:=by
    unfold mtR
    rw [List.any_eq_false];intro e he
    rw [Bool.not_eq_true,List.any_eq_false];intro f hf
    obtain ⟨j,hj,rfl⟩:=mem_ed he
    obtain ⟨k,hk,rfl⟩:=mem_ed hf
    rw [hno j k hj hk];decide
   rw [hx]
   conv=>whnf
   exact ⟨rfl,trivial⟩
@[irreducible] def wiB(a b:List P2):Bool:=decide (inE b=0)&&decide (0<inV b (ix a 0))
theorem pwithin_c(a b:List P2){n:Nat}(ha: ∀p∈a,BP n p)(hb: ∀p∈b,BP n p)(hn:n<1000000)(h0:0<a.length)(hlb:b.length≤100000):Fun Tryz.prog 211 [.l (pL a),.l (pL b)] [.v (.bool (wiB a b))] :=by
 refine fun_of_go (fun t=>false) mixed tOk Tryz.func211 rfl rfl ?_
 conv=>whnf
 refine idx_intro (pD (ix a 0)) (ix_at h0) (by omega) (pL_uni _) ?_
 conv=>whnf
 refine call_data rfl rfl (rinside_c b (ix a 0) hb (ha _ (ix_mem h0)) hn hlb) ?_
 conv=>whnf
 refine cond_e (fun h1=> ?_) (fun h1=> ?_)
 ·conv=>whnf
  refine ⟨?_,trivial⟩
  conv=>whnf
  rw [bz_eq]
  unfold wiB;rw [decide_eq_true h1];rfl
 ·conv=>whnf
  refine ⟨?_,trivial⟩
  conv=>whnf
  unfold wiB;rw [decide_eq_false h1];rfl
theorem hole1_c(h x:List P2){n:Nat}(ha: ∀p∈h,BP n p)(hb: ∀p∈x,BP n p)(hn:n<1000000)(hla:h.length≤100000)(hlb:x.length≤100000):
  Fun Tryz.prog 210 [.l (pL x),.p 0 [.l (pL h)]] [.v (.bool (mtR h x))] :=by
 refine fun_of_go (fun t=>false) mixed tOk Tryz.func210 rfl rfl ?_
 conv=>whnf
 refine call_data rfl rfl (pmeet_c h x ha hb (by omega) hla hlb) ?_
 conv=>whnf
 refine ⟨?_,trivial⟩
 conv=>whnf
theorem hole2_c(h x:List P2){n:Nat}(ha: ∀p∈h,BP n p)(hb: ∀p∈x,BP n p)(hn:n<1000000)(h0:0<h.length)(x0:0<x.length)(hla:h.length≤100000)(hlb:x.length≤100000):
  Fun Tryz.prog 212 [.l (pL x),.p 0 [.l (pL h)]] [.v (.bool (wiB h x||wiB x h))] :=by
 refine fun_of_go (fun t=>false) mixed tOk Tryz.func212 rfl rfl ?_
 conv=>whnf
 refine call_data rfl rfl (pwithin_c h x ha hb hn h0 hlb) ?_
 conv=>whnf
 refine cond_intro (fun h1=> ?_) (fun h1=> ?_)
 ·conv=>whnf
  refine ⟨?_,trivial⟩
  conv=>whnf
  rw [h1];rfl
 ·conv=>whnf
  refine call_data rfl rfl (pwithin_c x h hb ha hn x0 hla) ?_
  conv=>whnf
  refine ⟨?_,trivial⟩
  conv=>whnf
  rw [h1];rfl
abbrev hQ(ls:List (List P2)):List D:=ls.map fun l=> .l (pL l)
theorem hQ_uni(ls:List (List P2)):Uni 1 (hQ ls):=by
 intro x hx
 obtain ⟨p,_,rfl⟩:=List.mem_map.1 hx
 rfl
theorem hQ_get{l:List (List P2)}{i:Nat}(h:i<l.length):(hQ l)[(i:Int).toNat]? =some (.l (pL l[i])):=by simp [h]
theorem idx284{f:FuncId}{cap:List D}(g:List P2→Bool)(l:List (List P2))(hl:l.length<1000000000)(h: ∀p∈l,Fun Tryz.prog f ([.l (pL p)] ++cap) [.v (.bool (g p))]):
  Fun Tryz.prog 284 [.l (hQ l),.f f cap] [i64 (fstI g l)] :=by
 have hll:(hQ l).length=l.length:=by simp
 refine fun_of_go (fun t=>false) mixed tOk Tryz.func284 rfl rfl ?_
 conv=>whnf
 refine loop_intro (fun t=>false) (fun i:Nat=>⟨fr 19 [(0,.d (.l (hQ l))),(1,.d (.f f cap)),(7,.d (i64 (hQ l).length)),(8,.d (i64 i))], []⟩) (fun i=>i≤l.length∧ ∀j (hj:j<i) (hjl:j<l.length),g l[j] =false) (fun i=>l.length-i) 0 mixed tOk ⟨by omega,fun j hj=>by omega⟩ ?_ ?_
 ·refine weak_r ?_ ?_<;>repeat' (first|exact trivial|exact rfl|apply And.intro)
 ·rintro i ⟨hi,hno⟩
  conv=>whnf
  refine cond_d (fun hlt=> ?_) (fun hge=> ?_)
  ·have hlt':i<l.length:=by omega
   conv=>whnf
   refine idx_intro (.l (pL l[i])) (hQ_get hlt') (by omega) (hQ_uni l) ?_
   conv=>whnf
   refine call_data rfl rfl (h l[i] (List.getElem_mem _)) ?_
   conv=>whnf
   refine cond_intro (fun h1=> ?_) (fun h1=> ?_)
   ·rw [fstI_at hlt' (fun j hj=>hno j hj (by omega)) h1]
    conv=>whnf
    exact ⟨rfl,trivial⟩
   ·conv=>whnf
    refine sd_d (by omega) ?_
    conv=>whnf
    refine ⟨i+1,⟨by omega,fun j hj hjl=> ?_⟩,by omega, ?_⟩
    ·by_cases hji:j=i
     ·subst hji;exact h1
     ·exact hno j (by omega) hjl
    rw [Int.natCast_succ]
    refine weak_r ?_ ?_<;>repeat' (first|exact trivial|exact rfl|apply And.intro)
  ·have:i=l.length:=by omega
   subst this
   rw [fstI_no (fun j hj=>hno j hj hj)]
   conv=>whnf
   exact ⟨rfl,trivial⟩
theorem contains209{f:FuncId}{cap:List D}(g:List P2→Bool)(l:List (List P2))(hl:l.length<1000000000)(h: ∀p∈l,Fun Tryz.prog f ([.l (pL p)] ++cap) [.v (.bool (g p))]):
  Fun Tryz.prog 209 [.l (hQ l),.f f cap] [.v (.bool (l.any g))] :=by
 refine fun_of_go (fun t=>false) mixed tOk Tryz.func209 rfl rfl ?_
 conv=>whnf
 refine call_data rfl rfl (idx284 g l hl h) ?_
 conv=>whnf
 refine ⟨?_,trivial⟩
 conv=>whnf
 rw [bz_eq, ←fstI_any]
abbrev hR(hs:List (List (RD×RD))):List D:=hs.map fun h=> .l (rL h)
abbrev pgR(o:List (RD×RD))(hs:List (List (RD×RD))):D:= .a [.l (rL o),.l (hR hs)]
theorem hR_uni(ls:List (List (RD×RD))):Uni 1 (hR ls):=by
 intro x hx
 obtain ⟨p,_,rfl⟩:=List.mem_map.1 hx
 rfl
theorem hR_get{l:List (List (RD×RD))}{i:Nat}(h:i<l.length):(hR l)[(i:Int).toNat]? =some (.l (rL l[i])):=by simp [h]
theorem hR_can{ls:List (List (RD×RD))}(h: ∀l∈ls,l.all okR=true):hR ls=hQ (ls.map (List.map vP)):=by
 unfold hR hQ
 rw [List.map_map]
 refine List.map_congr_left fun l hl=> ?_
 show D.l (rL l)=D.l (pL (l.map vP))
 rw [rL_can (h l hl)]
theorem rgR_zero{l:List (RD×RD)}(h:rgR l=0):l.all okR=true∧rgE (l.map vP)=0∧3≤l.length∧l.length≤64:=by
 unfold rgR at h
 split at h
 ·exact absurd h (by decide)
 ·rename_i h1
  split at h
  ·rename_i h2;exact ⟨h2,h,by omega,by omega⟩
  ·exact absurd h (by decide)
@[irreducible] def hoE(o:List P2)(pre:List (List P2))(h:List P2):Int:=
 if mtR h o=true∨pre.any (fun x=>mtR h x)=true then 13
 else if wiB h o=false then 14
 else if pre.any (fun x=>wiB h x||wiB x h)=true then 22
 else if 0<pre.length∧0≤cmP (ix (pre.getD (pre.length-1) []) 0) (ix h 0) then 8
 else 0
theorem chole_c(o:List (RD×RD))(hs:List (List (RD×RD)))(i:Nat)(hi:i<hs.length){n:Nat}(hn:n<1000000)(hlen:hs.length≤100000)
  (ho:rgR o=0) (hob: ∀p∈o,BP n (vP p)) (hpre: ∀h∈hs.take i,rgR h=0) (hb: ∀h∈hs,∀p∈h,BP n (vP p)∧SzP p) (hlb: ∀h∈hs,h.length≤100000):
  Fun Tryz.prog 120 [pgR o hs,i64 i] [i64 (if rgR hs[i] ≠0 then rgR hs[i] else hoE (o.map vP) ((hs.take i).map (List.map vP)) (hs[i].map vP))] :=by
 have hll:(hR hs).length=hs.length:=by simp
 have hmem:hs[i] ∈hs:=List.getElem_mem _
 obtain ⟨o1,o2,o3,o4⟩:=rgR_zero ho
 have oq: ∀p∈o.map vP,BP n p:=fun p hp=>by obtain ⟨q,hq,rfl⟩:=List.mem_map.1 hp;exact hob q hq
 have ol:(o.map vP).length=o.length:=List.length_map ..
 have esub:subL (hR hs) (Int.toNat 0) ((i:Nat):Int).toNat=hQ ((hs.take i).map (List.map vP)):=by
  rw [←hR_can (fun l hl=>(rgR_zero (hpre l hl)).1)]
  simp [subL,hR,List.map_take]
 have pq: ∀x∈(hs.take i).map (List.map vP),(∀p∈x,BP n p)∧0<x.length∧x.length≤100000:=fun x hx=>by
  obtain ⟨q,hq,rfl⟩:=List.mem_map.1 hx
  have h1:=rgR_zero (hpre q hq)
  have hl1:(q.map vP).length=q.length:=List.length_map ..
  exact ⟨fun p hp=>by obtain ⟨r,hr,rfl⟩:=List.mem_map.1 hp;exact (hb q (List.mem_of_mem_take hq) r hr).1,by omega,by omega⟩
 have plen:((hs.take i).map (List.map vP)).length=i:=by rw [List.length_map,List.length_take];omega
 generalize (hs.take i).map (List.map vP)=pre at*
 have hget:=hR_get hi
 have hhb:=hb _ hmem
 have hhl:=hlb _ hmem
 generalize hs[i] =h at*
 rw [show pgR o hs= .a [.l (pL (o.map vP)),.l (hR hs)] by unfold pgR;rw [rL_can o1]]
 generalize o.map vP=o' at*
 refine fun_of_go (fun t=>t==5) mixed tOk Tryz.func120 rfl rfl ?_
 conv=>whnf
 refine idx_intro (.l (rL h)) hget (by omega) (hR_uni _) ?_
 conv=>whnf
 refine sd_du (by simp;omega) (hR_uni _) ?_
 conv=>whnf
 refine safe_intro (by kernel_rfl) ?_
 conv=>whnf
 have hSz: ∀p∈h,SzP p:=fun p hp=>(hhb p hp).2
 have hBp: ∀p∈h,BP n (vP p):=fun p hp=>(hhb p hp).1
 refine call_data rfl rfl (rcheck_c h hSz hBp hn hhl) ?_
 conv=>whnf
 refine cond_ne (fun c1=> ?_) (fun c1=> ?_)
 ·rw [if_pos c1]
  conv=>whnf
  exact ⟨rfl,trivial⟩
 rw [if_neg (fun hh=>hh c1)]
 obtain ⟨k1,k2,k3,k4⟩:=rgR_zero c1
 have hq: ∀p∈h.map vP,BP n p:=fun p hp=>by obtain ⟨r,hr,rfl⟩:=List.mem_map.1 hp;exact hBp r hr
 have hvl:(h.map vP).length=h.length:=List.length_map ..
 rw [rL_can k1]
 generalize h.map vP=h' at*
 rw [esub]
 conv=>whnf
 refine call_data rfl rfl (pmeet_c h' o' hq oq (by omega) (by omega) (by omega)) ?_
 conv=>whnf
 refine cond_intro (fun c2=> ?_) (fun c2=> ?_)
 ·have e:hoE o' pre h'=13:=by unfold hoE;rw [if_pos (.inl c2)]
  rw [e]
  conv=>whnf
  exact ⟨rfl,trivial⟩
 conv=>whnf
 refine call_lend rfl rfl (contains209 (fun x=>mtR h' x) pre (by omega) (fun x hx=>hole1_c h' x hq (pq x hx).1 hn (by omega) (pq x hx).2.2)) rfl ?_
 refine cond_intro (fun c3=> ?_) (fun c3=> ?_)
 ·have e:hoE o' pre h'=13:=by unfold hoE;rw [if_pos (.inr c3)]
  rw [e]
  conv=>whnf
  exact ⟨rfl,trivial⟩
 refine call_data rfl rfl (pwithin_c h' o' hq oq hn (by omega) (by omega)) ?_
 conv=>whnf
 have n1: ¬(mtR h' o'=true∨pre.any (fun x=>mtR h' x)=true):=by rw [c2,c3];decide
 refine cond_nb (fun c4=> ?_) (fun c4=> ?_)
 ·have e:hoE o' pre h'=14:=by unfold hoE;rw [if_neg n1,if_pos c4]
  rw [e]
  conv=>whnf
  exact ⟨rfl,trivial⟩
 have n2: ¬wiB h' o'=false:=by rw [c4];decide
 conv=>whnf
 refine call_lend rfl rfl (contains209 (fun x=>wiB h' x||wiB x h') pre (by omega) (fun x hx=>hole2_c h' x hq (pq x hx).1 hn (by omega) (pq x hx).2.1 (by omega) (pq x hx).2.2)) rfl ?_
 conv=>whnf
 refine cond_intro (fun c5=> ?_) (fun c5=> ?_)
 ·have e:hoE o' pre h'=22:=by unfold hoE;rw [if_neg n1,if_neg n2,if_pos c5]
  rw [e]
  conv=>whnf
  exact ⟨rfl,trivial⟩
 have n3: ¬pre.any (fun x=>wiB h' x||wiB x h')=true:=by rw [c5];decide
 have e0:hoE o' pre h'=if 0<pre.length∧0≤cmP (ix (pre.getD (pre.length-1) []) 0) (ix h' 0) then 8 else 0:=by
  unfold hoE;rw [if_neg n1,if_neg n2,if_neg n3]
 rw [e0]
 refine cond_d (fun c6=> ?_) (fun c6=> ?_)
 ·have hlt:pre.length-1<pre.length:=by omega
  have eg:pre.getD (pre.length-1) [] =pre[pre.length-1] :=by rw [List.getD_eq_getElem?_getD,List.getElem?_eq_getElem hlt];rfl
  rw [eg]
  have hx:=pq _ (List.getElem_mem hlt)
  have gx:(hQ pre)[((i:Int)-1).toNat]? =some (.l (pL pre[pre.length-1])):=by
   have e:((i:Int)-1)=((pre.length-1:Nat):Int):=by omega
   rw [e];exact hQ_get hlt
  generalize pre[pre.length-1] =x at*
  conv=>whnf
  refine sd_d (by omega) ?_
  conv=>whnf
  refine idx_intro (.l (pL x)) gx (by omega) (hQ_uni _) ?_
  conv=>whnf
  refine idx_intro (pD (ix x 0)) (ix_at hx.2.1) (by omega) (pL_uni _) ?_
  conv=>whnf
  refine idx_intro (pD (ix h' 0)) (ix_at (show 0<h'.length by omega)) (by omega) (pL_uni _) ?_
  conv=>whnf
  have q1:=(hx.1 _ (ix_mem hx.2.1 (k:=0))).q (by omega)
  have q2:=(hq _ (ix_mem (show 0<h'.length by omega) (k:=0))).q (by omega)
  refine callv_data (vcmp_c q1.1 q1.2 q2.1 q2.2) ?_
  conv=>whnf
  refine safe_intro (by kernel_rfl) ?_
  conv=>whnf
  refine cond_d (fun c7=> ?_) (fun c7=> ?_)
  ·rw [if_pos ⟨by omega,c7⟩]
   conv=>whnf
   exact ⟨rfl,trivial⟩
  ·rw [if_neg (fun hh=>c7 hh.2)]
   conv=>whnf
   exact ⟨rfl,trivial⟩
 ·rw [if_neg (fun hh=>c6 (by omega))]
  conv=>whnf
  refine safe_intro (by kernel_rfl) ?_
  conv=>whnf
  exact ⟨rfl,trivial⟩
def hoL(o:List P2):List (List P2)→List (List (RD×RD))→Int
 |_, [] =>0
 |pre,h::hs=>if rgR h≠0 then rgR h else if hoE o pre (h.map vP)≠0 then hoE o pre (h.map vP) else hoL o (pre++ [h.map vP]) hs
@[irreducible] def pgE(o:List (RD×RD))(hs:List (List (RD×RD))):Int:=
 if rgR o≠0 then rgR o else if 8<hs.length then 4 else hoL (o.map vP) [] hs
theorem pcheck_c(o:List (RD×RD))(hs:List (List (RD×RD))){n:Nat}(hn:n<1000000)(hlo:o.length≤100000)(hlen:hs.length≤100000)
  (hob: ∀p∈o,BP n (vP p)∧SzP p) (hb: ∀h∈hs,∀p∈h,BP n (vP p)∧SzP p) (hlb: ∀h∈hs,h.length≤100000):
  Fun Tryz.prog 48 [pgR o hs] [i64 (pgE o hs)] :=by
 have hll:(hR hs).length=hs.length:=by simp
 refine fun_of_go (fun t=>false) mixed tOk Tryz.func48 rfl rfl ?_
 conv=>whnf
 refine call_data rfl rfl (rcheck_c o (fun p hp=>(hob p hp).2) (fun p hp=>(hob p hp).1) hn hlo) ?_
 conv=>whnf
 refine cond_ne (fun c1=> ?_) (fun c1=> ?_)
 ·have e:pgE o hs=rgR o:=by unfold pgE;rw [if_pos c1]
  rw [e]
  conv=>whnf
  exact ⟨rfl,trivial⟩
 conv=>whnf
 refine cond_d (fun c2=> ?_) (fun c2=> ?_)
 ·have e:pgE o hs=4:=by unfold pgE;rw [if_neg (fun hh=>hh c1),if_pos (by omega)]
  rw [e]
  conv=>whnf
  exact ⟨rfl,trivial⟩
 have e0:pgE o hs=hoL (o.map vP) [] hs:=by unfold pgE;rw [if_neg (fun hh=>hh c1),if_neg (by omega)]
 rw [e0]
 conv=>whnf
 refine loop_intro (fun t=>false) (fun i:Nat=>⟨fr 29 [(1,.d (.p 0 [.l (rL o),.l (hR hs)])),(18,.d (i64 (hR hs).length)),(19,.d (i64 i))], []⟩)
  (fun i=>i≤hs.length∧(∀h∈hs.take i,rgR h=0)∧hoL (o.map vP) [] hs=hoL (o.map vP) ((hs.take i).map (List.map vP)) (hs.drop i)) (fun i=>hs.length-i) 0 mixed tOk ⟨by omega,by simp,by simp⟩ ?_ ?_
 ·refine weak_r ?_ ?_<;>repeat' (first|exact trivial|exact rfl|apply And.intro)
 ·rintro i ⟨hi,hpre,heq⟩
  rw [heq]
  conv=>whnf
  refine cond_d (fun hlt=> ?_) (fun hge=> ?_)
  ·have hlt':i<hs.length:=by omega
   rw [List.drop_eq_getElem_cons hlt']
   have hk:=chole_c o hs i hlt' hn hlen c1 (fun p hp=>(hob p hp).1) hpre hb hlb
   have htk:hs.take (i+1)=hs.take i++ [hs[i]] :=List.take_succ_eq_append_getElem hlt'
   have hst:rgR hs[i] =0→hoE (o.map vP) ((hs.take i).map (List.map vP)) (hs[i].map vP)=0→hoL (o.map vP) ((hs.take i).map (List.map vP)) (hs[i] ::hs.drop (i+1))=hoL (o.map vP) ((hs.take (i+1)).map (List.map vP)) (hs.drop (i+1)):=fun h1 h2=>by
    rw [hoL,if_neg (fun hh=>hh h1),if_neg (fun hh=>hh h2),htk,List.map_append];rfl
   have hend:(if rgR hs[i] ≠0 then rgR hs[i] else hoE (o.map vP) ((hs.take i).map (List.map vP)) (hs[i].map vP))≠0→hoL (o.map vP) ((hs.take i).map (List.map vP)) (hs[i] ::hs.drop (i+1))=(if rgR hs[i] ≠0 then rgR hs[i] else hoE (o.map vP) ((hs.take i).map (List.map vP)) (hs[i].map vP)):=fun h1=>by
    rw [hoL]
    split
    ·rfl
    ·rename_i h2
     rw [if_neg h2] at h1
     rw [if_pos h1]
   have hze:(if rgR hs[i] ≠0 then rgR hs[i] else hoE (o.map vP) ((hs.take i).map (List.map vP)) (hs[i].map vP))=0→rgR hs[i] =0∧hoE (o.map vP) ((hs.take i).map (List.map vP)) (hs[i].map vP)=0:=fun h1=>by
    split at h1
    ·rename_i h2;exact absurd h1 h2
    ·rename_i h2;exact ⟨Classical.not_not.1 h2,h1⟩
   generalize (if rgR hs[i] ≠0 then rgR hs[i] else hoE (o.map vP) ((hs.take i).map (List.map vP)) (hs[i].map vP))=k at*
   conv=>whnf
   refine call_data rfl rfl hk ?_
   conv=>whnf
   refine cond_ne (fun c3=> ?_) (fun c3=> ?_)
   ·rw [hend c3]
    conv=>whnf
    exact ⟨rfl,trivial⟩
   ·obtain ⟨z1,z2⟩:=hze c3
    rw [hst z1 z2]
    conv=>whnf
    refine sd_d (by omega) ?_
    conv=>whnf
    refine ⟨i+1,⟨by omega,fun h hh=> ?_, ?_⟩,by omega, ?_⟩
    ·rw [htk] at hh
     rcases List.mem_append.1 hh with hh|hh
     ·exact hpre h hh
     ·rw [List.mem_singleton.1 hh];exact z1
    ·rfl
    rw [Int.natCast_succ]
    refine weak_r ?_ ?_<;>repeat' (first|exact trivial|exact rfl|apply And.intro)
  ·have:i=hs.length:=by omega
   subst this
   rw [List.drop_length,hoL]
   conv=>whnf
   exact ⟨rfl,trivial⟩
end Go.Nv
end
