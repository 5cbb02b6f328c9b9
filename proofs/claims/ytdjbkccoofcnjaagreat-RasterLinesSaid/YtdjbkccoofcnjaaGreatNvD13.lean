import Derived.Test.YtdjbkccoofcnjaaGreatNvD4
import Derived.Test.YtdjbkccoofcnjaaGreatNvD12
import Derived.Test.YtdjbkccoofcnjaaGreatNvD6
import Derived.Test.YtdjbkccoofcnjaaGreatNvC7
import Derived.Test.YtdjbkccoofcnjaaGreatNvD10
import Derived.Test.YtdjbkccoofcnjaaGreatNvD11
set_option linter.all false
set_option maxRecDepth 100000
section
namespace Go.Nv
open Go.Proofs Nw
def trP(v p:P2):P2:=(p.1+v.1,p.2+v.2)
def trL(v:P2)(l:List P2):List P2:=l.map (trP v)
def trE(v:P2)(e:P2×P2):P2×P2:=(trP v e.1,trP v e.2)
theorem trP_inj{v p q:P2}:trP v p=trP v q↔p=q:=by
 unfold trP
 constructor
 ·intro h
  simp only [Prod.mk.injEq] at h
  exact Prod.ext (by grind) (by grind)
 ·intro h;rw [h]
theorem tr_su(v p q:P2):su (trP v p) (trP v q)=su p q:=by
 unfold su trP;simp only [Prod.mk.injEq];constructor<;>grind
theorem tr_orQ(v a b c:P2):orQ (trP v a) (trP v b) (trP v c)=orQ a b c:=by
 simp only [orQ,trP];grind
theorem tr_orI(v a b c:P2):orI (trP v a) (trP v b) (trP v c)=orI a b c:=by unfold orI;rw [tr_orQ]
theorem tr_cmpI(p q a:Rat):cmpI (p+a) (q+a)=cmpI p q:=by
 rw [cmpI_eq,cmpI_eq];unfold cmpQ
 have h1:(p+a<q+a)↔p<q:=by constructor<;>grind
 have h2:(q+a<p+a)↔q<p:=by constructor<;>grind
 simp only [h1,h2]
theorem tr_cmP(v p q:P2):cmP (trP v p) (trP v q)=cmP p q:=by
 unfold cmP trP;simp only [tr_cmpI]
theorem tr_ordP(v a b:P2):ordP (trP v a) (trP v b)=(trP v (ordP a b).1,trP v (ordP a b).2):=by
 unfold ordP;rw [tr_cmP];split<;>rfl
theorem tr_gtrP(v a b:P2):gtrP (trP v a) (trP v b)=trP v (gtrP a b):=by unfold gtrP;rw [tr_cmP];split<;>rfl
theorem tr_lsrP(v a b:P2):lsrP (trP v a) (trP v b)=trP v (lsrP a b):=by unfold lsrP;rw [tr_cmP];split<;>rfl
theorem tr_mtQ(v a b c d:P2):(mtQ (trP v a) (trP v b) (trP v c) (trP v d)).isSome=(mtQ a b c d).isSome:=by
 unfold mtQ
 rw [tr_su,tr_su,tr_su]
 by_cases h1:crQ (su b a) (su d c)=0
 ·rw [if_pos h1,if_pos h1]
  by_cases h2:crQ (su b a) (su c a)=0
  ·rw [if_pos h2,if_pos h2,tr_ordP,tr_ordP]
   simp only [tr_gtrP,tr_lsrP,tr_cmP]
   split<;>rfl
  ·rw [if_neg h2,if_neg h2]
 ·rw [if_neg h1,if_neg h1]
  split<;>rfl
theorem tr_mtB(v a b c d:P2):mtB (trP v a) (trP v b) (trP v c) (trP v d)=mtB a b c d:=by
 unfold mtB;rw [tr_mtQ];simp only [trP_inj]
theorem trL_len(v:P2)(l:List P2):(trL v l).length=l.length:=List.length_map ..
theorem tr_ix{v:P2}{l:List P2}(h:0<l.length)(i:Nat):ix (trL v l) i=trP v (ix l i):=by
 rw [ix_mod (l:=trL v l) (by rw [trL_len];exact h),ix_mod h]
 simp only [trL_len]
 unfold trL;rw [List.getElem_map]
theorem tr_prs(v:P2): ∀(l:List P2) (a:P2),prs (trP v a) (trL v l)=(prs a l).map (trE v)
 | [],a=>rfl
 |b::l,a=>by
  show (trP v a,trP v b)::prs (trP v b) (trL v l)=trE v (a,b)::(prs b l).map (trE v)
  rw [tr_prs v l b];rfl
theorem tr_cyc(v:P2)(l:List P2):cyc (trL v l)=(cyc l).map (trE v):=by
 cases l with
 |nil=>rfl
 |cons a l=>
  show prs (trP v a) (trL v l++ [trP v a])=(prs a (l++ [a])).map (trE v)
  rw [←tr_prs];unfold trL;rw [List.map_append];rfl
theorem sumE_map(f:P2→P2→Rat)(v:P2): ∀E:List (P2×P2),sumE f (E.map (trE v))=sumE (fun p q=>f (trP v p) (trP v q)) E
 | [] =>rfl
 |e::E=>by simp only [List.map_cons,sumE];rw [sumE_map f v E];rfl
theorem tr_ar(v:P2)(l:List P2):tot ar (trL v l)=tot ar l:=by
 have e:=tr_cyc v l
 unfold tot
 rw [e,sumE_map]
 have c:Cob (fun p q=>ar (trP v p) (trP v q)) ar:=⟨fun p=>v.1*p.2-v.2*p.1,fun p q=>by simp only [ar,trP];grind⟩
 exact c.sum (cyc_clo l)
theorem tr_crQ(v:P2)(l:List P2):tot crQ (trL v l)=tot crQ l:=tr_ar v l
theorem tr_flB{v:P2}{l:List P2}(h:0<l.length)(i:Nat):flB (trL v l) i=flB l i:=by
 unfold flB;rw [trL_len,tr_ix h,tr_ix h,tr_ix h,tr_orI]
theorem tr_xB{v:P2}{l:List P2}(h:0<l.length)(i k:Nat):xB (trL v l) i k=xB l i k:=by
 unfold xB ed;rw [trL_len,tr_ix h,tr_ix h,tr_ix h,tr_ix h,tr_mtB]
theorem tr_crB{v:P2}{l:List P2}(h:0<l.length):crB (trL v l)=crB l:=by
 unfold crB;rw [trL_len]
 simp only [tr_xB h]
theorem tr_kf{v:P2}{l:List P2}(h:0<l.length): ∀i,kf (trL v l) i=kf l i
 |0=>rfl
 |i+1=>by
  unfold kf
  rw [tr_kf h i,tr_ix h,tr_ix h,tr_cmP]
theorem RgOk.tr{l:List P2}(h:RgOk l)(v:P2):RgOk (trL v l):=by
 have h0:0<l.length:=by have:=h.len;omega
 refine ⟨by rw [trL_len];exact h.len,fun i hi=> ?_, ?_, ?_, ?_⟩
 ·rw [tr_flB h0];exact h.fl i (by rw [trL_len] at hi;exact hi)
 ·rw [tr_crB h0];exact h.cr
 ·rw [tr_crQ];exact h.pos
 ·rw [trL_len,tr_kf h0];exact h.fst
theorem rgR_cP(l:List P2):rgR (l.map cP)=rgE l:=by
 have hl:(l.map cP).length=l.length:=List.length_map ..
 unfold rgR
 rw [all_cP,if_pos rfl,vP_map,hl]
 by_cases h:l.length<3∨64<l.length
 ·rw [if_pos h];unfold rgE;rw [if_pos h]
 ·rw [if_neg h]
def Hf.tr(H:Hf)(v:P2):Hf:=⟨H.ax,H.up,H.c+(if H.ax then v.1 else v.2)⟩
theorem canon_half:canon (1/2)=⟨false,⟨#[1]⟩,⟨#[2]⟩⟩:=by kernel_rfl
theorem ratD_half:ratD (1/2)= .a [.v (.bool false),.v (.string ⟨#[1]⟩),.v (.string ⟨#[2]⟩)] :=by
 unfold ratD rneg rnum rden
 rw [canon_half]
theorem bd_half:Bd 1 (1/2:Rat):=((bd_int 1 (n:=0) (by simp)).div (bd_int 2 (n:=1) (by decide))).mono (by omega)
theorem fhalf_c{p:Rat}{n:Nat}(hp:Bd n p)(hn:n<10000000000):Fun Tryz.prog 180 [ratD p] [ratD (p/2)] :=by
 have h:=rmul_q (p:=p) (q:=1/2) (.mk hp (by omega)) (.mk bd_half (by omega))
 have e:p*(1/2)=p/2:=by grind
 rw [e] at h
 refine fun_of_go (fun t=>false) mixed tOk Tryz.func180 rfl rfl ?_
 conv=>whnf
 refine call_eq rfl rfl h ?_ ?_
 ·rw [ratD_half];rfl
 ·conv=>whnf
  refine ⟨?_,trivial⟩
  conv=>whnf
  exact ⟨rfl,rfl,rfl,trivial⟩
noncomputable def farSt(l:List P2)(i:Nat):St:=
 ⟨fr 24 [(0,.d (.l (pL l))),(2,.ptr 0 0 0),(3,.ptr 1 0 0),(4,.d (i64 i))],
  [.box 27 [.d (.v (.bool false)),.d (.v (.string emp)),.d (.v (.string emp))],
  .box 27 [.d (.v (.bool (rneg (sumE crQ ((cyc l).take i))))),.d (.v (.string (rnum (sumE crQ ((cyc l).take i))))),.d (.v (.string (rden (sumE crQ ((cyc l).take i)))))]]⟩
theorem farea_c(l:List P2){n:Nat}(hl: ∀p∈l,BP n p)(hn:n<1000000)(hlen:l.length≤1000):Fun Tryz.prog 88 [.l (pL l)] [ratD (tot crQ l/2)] :=by
 have hmul: ∀i,i≤l.length→i*(4*n+2)≤1000*(4*1000000+2):=fun i h=>Nat.mul_le_mul (by omega) (by omega)
 have hll:(pL l).length=l.length:=by simp
 refine fun_of_go (fun t=>t==2||t==3) mixed tOk Tryz.func88 rfl rfl ?_
 conv=>whnf
 refine loop_intro (fun t=>t==2||t==3) (fun i:Nat=>farSt l i) (fun i=>i≤l.length) (fun i=>l.length-i) 0 mixed tOk (by omega) ?_ ?_
 ·unfold farSt
  simp only [List.take_zero,sumE,rneg_zero,rnum_zero,rden_zero]
  refine weak_r ?_ ?_<;>repeat' (first|exact trivial|exact rfl|apply And.intro)
 ·intro i hi
  conv=>whnf
  refine cond_d (fun hlt=> ?_) (fun hge=> ?_)
  ·have hlt':i<l.length:=by rw [pL_len] at hlt;omega
   have hm:=mod_lt' hlt'
   have b1:=hl l[i] (List.getElem_mem _)
   have b2:=hl (l[(i+1)%l.length]'hm) (List.getElem_mem _)
   have b0:=area_bd hl i hi
   have hmi:=hmul _ hi
   conv=>whnf
   refine idx_intro (pD l[i]) (pL_get hlt') (by omega) (pL_uni l) ?_
   conv=>whnf
   refine callv_data (fnext_c hlt' hlen) ?_
   conv=>whnf
   refine callv_data (fcross_c b1 b2 (by omega)) ?_
   conv=>whnf
   refine callv_data (radd_q (.mk b0 (by omega)) (.mk (b1.cr b2) (by omega))) ?_
   conv=>whnf
   refine safe_intro (by kernel_rfl) ?_
   conv=>whnf
   refine sd_d (by omega) ?_
   conv=>whnf
   refine ⟨i+1,by omega,by omega, ?_⟩
   unfold farSt
   rw [cyc_take hlt',sumE_append,sumE_one,Int.natCast_succ]
   refine weak_r ?_ ?_<;>repeat' (first|exact trivial|exact rfl|apply And.intro)
  ·have:i=l.length:=by rw [pL_len] at hge;omega
   subst this
   have hb:Bd (1000*(4*1000000+2)) (sumE crQ ((cyc l).take l.length)):=(area_bd hl _ hi).mono (hmul _ hi)
   rw [←tot_all]
   conv=>whnf
   refine call_data rfl rfl (fhalf_c hb (by omega)) ?_
   conv=>whnf
   refine ⟨?_,trivial⟩
   conv=>whnf
   exact ⟨rfl,rfl,rfl,trivial⟩
theorem rcrB_t{l:List P2}{i k:Nat}(h1:i<l.length)(h2:k<l.length)(h:rxB l i k=true):rcrB l=true:=by
 unfold rcrB
 exact List.any_eq_true.2 ⟨i,by simpa using h1,List.any_eq_true.2 ⟨k,by simpa using h2,h⟩⟩
theorem rcrB_f{l:List P2}(h: ∀i k,i<l.length→k<l.length→rxB l i k=false):rcrB l=false:=by
 unfold rcrB
 rw [List.any_eq_false];intro i hi
 rw [Bool.not_eq_true,List.any_eq_false];intro k hk
 rw [h i k (by simpa using hi) (by simpa using hk)];simp
def fcrSt(l:List P2)(i:Nat):St:=⟨fr 43 [(0,.d (.l (pL l))),(3,.d (i64 (pL l).length)),(4,.d (i64 i))], []⟩
def fcrSt2(l:List P2)(i k:Nat):St:=⟨fr 43 [(0,.d (.l (pL l))),(3,.d (i64 (pL l).length)),(4,.d (i64 i)),(5,.d (i64 k))], []⟩
theorem fcrossing_c{l:List P2}{n:Nat}(hl: ∀p∈l,BP n p)(hn:n<1000000)(hlen:l.length≤1000):Fun Tryz.prog 236 [.l (pL l)] [.v (.bool (rcrB l))] :=by
 have hll:(pL l).length=l.length:=by simp
 refine fun_of_go (fun t=>false) mixed tOk Tryz.func236 rfl rfl ?_
 conv=>whnf
 refine loop_intro (fun t=>false) (fun i:Nat=>fcrSt l i) (fun i=>i≤l.length∧ ∀j k,j<i→k<l.length→rxB l j k=false) (fun i=>l.length-i) 0 mixed tOk ⟨by omega,fun j k hj=>by omega⟩ ?_ ?_
 ·refine weak_r ?_ ?_<;>repeat' (first|exact trivial|exact rfl|apply And.intro)
 ·rintro i ⟨hi,hno⟩
  conv=>whnf
  refine cond_d (fun hlt=> ?_) (fun hge=> ?_)
  ·have hlt':i<l.length:=by omega
   have h0:0<l.length:=by omega
   conv=>whnf
   refine sd_d (by omega) ?_
   conv=>whnf
   refine loop_intro (fun t=>false) (fun k:Nat=>fcrSt2 l i k) (fun k=>i+2≤k∧ ∀j,j<k→j<l.length→rxB l i j=false) (fun k=>l.length-k) (i+2) mixed tOk ⟨by omega,fun j hj _=> ?_⟩ ?_ ?_
   ·unfold rxB;rw [decide_eq_false (by omega)];rfl
   ·refine weak_r ?_ ?_<;>repeat' (first|exact trivial|exact rfl|apply And.intro)
   ·rintro k ⟨hk,hnok⟩
    have step:k<l.length→rxB l i k=false→ ∀j,j<k+1→j<l.length→rxB l i j=false:=fun _ h j hj hjl=>by
     by_cases hjk:j=k
     ·subst hjk;exact h
     ·exact hnok j (by omega) hjl
    conv=>whnf
    refine cond_d (fun hlt2=> ?_) (fun hge2=> ?_)
    ·have hlt2':k<l.length:=by omega
     have e3:Int.tmod ((k:Int)+1) ((pL l).length:Int)=(((k+1)%l.length:Nat):Int):=by
      rw [pL_len,show ((k:Int)+1)=((k+1:Nat):Int) from rfl,tmod_nat]
     have b0:=hl _ (ix_mem (l:=l) (k:=i) (by omega))
     have b1:=hl _ (ix_mem (l:=l) (k:=i+1) (by omega))
     have b2:=hl _ (ix_mem (l:=l) (k:=k) (by omega))
     have b3:=hl _ (ix_mem (l:=l) (k:=k+1) (by omega))
     conv=>whnf
     refine sd_d (by omega) ?_
     conv=>whnf
     refine sd_d (by omega) ?_
     conv=>whnf
     rw [e3]
     refine cond_ne (fun c1=> ?_) (fun c1=> ?_)
     ·have hz:rxB l i k=rmB (ix l i) (ix l (i+1)) (ix l k) (ix l (k+1)):=by
       unfold rxB;rw [decide_eq_true hk,decide_eq_false (show¬(k+1)%l.length=i by omega)];rfl
      conv=>whnf
      refine idx_intro (pD (ix l i)) (ix_at hlt') (by omega) (pL_uni l) ?_
      conv=>whnf
      refine callv_data (fnextI_c hlt' hlen) ?_
      conv=>whnf
      refine idx_intro (pD (ix l k)) (ix_at hlt2') (by omega) (pL_uni l) ?_
      conv=>whnf
      refine callv_data (fnextI_c hlt2' hlen) ?_
      conv=>whnf
      refine callv_data (frmeet_c b0 b1 b2 b3 hn) ?_
      conv=>whnf
      refine safe_intro (by kernel_rfl) ?_
      conv=>whnf
      refine cond_intro (fun c3=> ?_) (fun c3=> ?_)
      ·rw [rcrB_t hlt' hlt2' (by rw [hz];exact c3)]
       conv=>whnf
       refine ⟨?_,trivial⟩
       conv=>whnf
      ·have hx:rxB l i k=false:=by rw [hz];exact c3
       conv=>whnf
       refine sd_d (by omega) ?_
       conv=>whnf
       refine ⟨k+1,⟨by omega,step hlt2' hx⟩,by omega, ?_⟩
       unfold fcrSt2;rw [Int.natCast_succ]
       refine weak_r ?_ ?_<;>repeat' (first|exact trivial|exact rfl|apply And.intro)
     ·have hx:rxB l i k=false:=by
       unfold rxB;rw [decide_eq_true (show (k+1)%l.length=i by omega)];simp
      conv=>whnf
      refine safe_intro (by kernel_rfl) ?_
      conv=>whnf
      refine sd_d (by omega) ?_
      conv=>whnf
      refine ⟨k+1,⟨by omega,step hlt2' hx⟩,by omega, ?_⟩
      unfold fcrSt2;rw [Int.natCast_succ]
      refine weak_r ?_ ?_<;>repeat' (first|exact trivial|exact rfl|apply And.intro)
    ·conv=>whnf
     refine sd_d (by omega) ?_
     conv=>whnf
     refine ⟨i+1,⟨by omega,fun j k' hj hk'=> ?_⟩,by omega, ?_⟩
     ·by_cases hji:j=i
      ·subst hji;exact hnok k' (by omega) hk'
      ·exact hno j k' (by omega) hk'
     unfold fcrSt;rw [Int.natCast_succ]
     refine weak_r ?_ ?_<;>repeat' (first|exact trivial|exact rfl|apply And.intro)
  ·have:i=l.length:=by omega
   subst this
   rw [rcrB_f (fun i k hi hk=>hno i k hi hk)]
   conv=>whnf
   refine ⟨?_,trivial⟩
   conv=>whnf
theorem frcheck_c(l:List (RD×RD)){n:Nat}(hz: ∀p∈l,SzP p)(hl: ∀p∈l,BP n (vP p))(hn:n<1000000)(hlen:l.length≤1000):Fun Tryz.prog 161 [.l (rL l)] [i64 (rgR l)] :=by
 have hll:(rL l).length=l.length:=by simp
 refine fun_of_go (fun t=>false) mixed tOk Tryz.func161 rfl rfl ?_
 conv=>whnf
 refine cond_d (fun h1=> ?_) (fun h1=> ?_)
 ·have e:rgR l=4:=by unfold rgR;rw [if_pos (by omega)]
  rw [e]
  conv=>whnf
  exact ⟨rfl,trivial⟩
 conv=>whnf
 refine cond_d (fun h2=> ?_) (fun h2=> ?_)
 ·have e:rgR l=4:=by unfold rgR;rw [if_pos (by omega)]
  rw [e]
  conv=>whnf
  exact ⟨rfl,trivial⟩
 conv=>whnf
 refine call_data rfl rfl (fcanon_c hz (by omega)) ?_
 conv=>whnf
 refine cond_nb (fun h3=> ?_) (fun h3=> ?_)
 ·have e:rgR l=1:=by unfold rgR;rw [if_neg (by omega),h3];rfl
  rw [e]
  conv=>whnf
  exact ⟨rfl,trivial⟩
 have e0:rgR l=rgE (l.map vP):=by unfold rgR;rw [if_neg (by omega),if_pos h3]
 rw [e0,rL_can h3, ←frE_rg]
 have hm: ∀p∈l.map vP,BP n p:=fun p hp=>by
  obtain ⟨q,hq,rfl⟩:=List.mem_map.1 hp
  exact hl q hq
 have hml:(l.map vP).length=l.length:=List.length_map ..
 generalize hM:l.map vP=m at hm hml ⊢
 have r0:frE m=if (List.range m.length).any (stB m)=true then 12 else if rcrB m=true then 13 else if sgnI (tot crQ m/2)<0∨(lsN m (m.length-1):Int)≠0 then 8 else 0:=by
  unfold frE;rw [if_neg (by omega)]
 rw [r0]
 have hk4:=fstraight_c hm hn (by omega)
 generalize (List.range m.length).any (stB m)=z4 at*
 conv=>whnf
 refine call_data rfl rfl hk4 ?_
 conv=>whnf
 refine cond_intro (fun h4=> ?_) (fun h4=> ?_)
 ·rw [if_pos h4]
  conv=>whnf
  exact ⟨rfl,trivial⟩
 rw [if_neg (by rw [h4];decide)]
 conv=>whnf
 refine call_data rfl rfl (fcrossing_c hm hn (by omega)) ?_
 conv=>whnf
 refine cond_intro (fun h5=> ?_) (fun h5=> ?_)
 ·rw [if_pos h5]
  conv=>whnf
  exact ⟨rfl,trivial⟩
 rw [if_neg (by rw [h5];decide)]
 have hta:Bd (1000*(4*n+2)+1) (tot crQ m/2):=by
  have:=area_bd hm m.length (Nat.le_refl _)
  rw [tot_all] at this
  refine (this.div (bd_int 2 (n:=1) (by decide))).mono ?_
  have:m.length*(4*n+2)≤1000*(4*n+2):=Nat.mul_le_mul_right _ (by omega)
  omega
 conv=>whnf
 refine call_data rfl rfl (farea_c m hm (by omega) (by omega)) ?_
 conv=>whnf
 refine call_data rfl rfl (rsign_q (.mk hta (by omega))) ?_
 conv=>whnf
 refine cond_d (fun h6=> ?_) (fun h6=> ?_)
 ·rw [if_pos (.inl h6)]
  conv=>whnf
  exact ⟨rfl,trivial⟩
 conv=>whnf
 refine call_data rfl rfl (fleast_c hm hn (by omega) (by omega)) ?_
 conv=>whnf
 refine cond_ne (fun h7=> ?_) (fun h7=> ?_)
 ·rw [if_pos (.inr h7)]
  conv=>whnf
  exact ⟨rfl,trivial⟩
 ·rw [if_neg (by rintro (h|h)<;>contradiction)]
  conv=>whnf
  exact ⟨rfl,trivial⟩
theorem frcheck_q{l:List P2}{n:Nat}(hl: ∀p∈l,BP n p)(hn:n<1000000)(hlen:l.length≤1000):Fun Tryz.prog 161 [.l (pL l)] [i64 (rgE l)] :=by
 have h:=frcheck_c (l.map cP) (n:=n) (fun p hp=>by obtain ⟨q,hq,rfl⟩:=List.mem_map.1 hp;exact (hl q hq).szp (by omega))
  (fun p hp=>by obtain ⟨q,hq,rfl⟩:=List.mem_map.1 hp;rw [vP_cP];exact hl q hq) hn (by simpa using hlen)
 rw [rL_cP,rgR_cP] at h
 exact h
theorem finside_c{l:List P2}{p:P2}{n:Nat}(hr:RgOk l)(hl: ∀p∈l,BP n p)(hp:BP n p)(hn:n<1000000):Fun Tryz.prog 182 [.l (pL l),pD p] [i64 (inV l p),i64 0] :=by
 have hlen:=hr.len
 have h1:=frcheck_q hl hn (by omega)
 rw [rgE_zero.2 hr] at h1
 have h2:=fvcheck_q (hp.q (by omega)).1 (hp.q (by omega)).2
 have h3:=fside_c hl hp hn (by omega)
 rw [sdI_in hr] at h3
 refine fun_of_go (fun t=>false) mixed tOk Tryz.func182 rfl rfl ?_
 conv=>whnf
 refine call_data rfl rfl h1 ?_
 conv=>whnf
 refine cond_bf (by decide) ?_
 conv=>whnf
 refine call_data rfl rfl h2 ?_
 conv=>whnf
 refine cond_bf (by decide) ?_
 conv=>whnf
 refine call_data rfl rfl h3 ?_
 conv=>whnf
 refine ⟨?_, ?_,trivial⟩
 ·conv=>whnf
 ·conv=>whnf
theorem fwithin_c{l:List P2}{p:P2}{n:Nat}(hr:RgOk l)(hl: ∀p∈l,BP n p)(hp:BP n p)(hn:n<1000000):Fun Tryz.prog 163 [.l (pL l),pD p] [.v (.bool (decide (inV l p=1)))] :=by
 refine fun_of_go (fun t=>false) mixed tOk Tryz.func163 rfl rfl ?_
 conv=>whnf
 refine call_data rfl rfl (finside_c hr hl hp hn) ?_
 conv=>whnf
 refine ⟨?_,trivial⟩
 conv=>whnf
 rw [bz_eq]
 rfl
theorem fless5_c{p q:Rat}(hp:Q p)(hq:Q q):Fun Tryz.prog 276 [ratD p,ratD q] [.v (.bool (decide (p<q)))] :=by
 refine fun_of_go (fun t=>false) mixed tOk Tryz.func276 rfl rfl ?_
 conv=>whnf
 refine call_data rfl rfl (rcmp_q hp hq) ?_
 conv=>whnf
 refine ⟨?_,trivial⟩
 conv=>whnf
 rw [bz_eq,decide_eq_decide]
 exact cmpI_neg
theorem ratD00:ratD 0= .a [.v (.bool false),.v (.string emp),.v (.string emp)] :=by
 unfold ratD;rw [rneg_zero,rnum_zero,rden_zero]
theorem fcanon5_c{p:Rat}(hp:Q p):Fun Tryz.prog 277 [ratD p] [ratD p] :=by
 have h0:Q 0:= .mk (bd_int 0 (n:=0) (by simp)) (by omega)
 have h:=radd_q hp h0
 rw [Q.add0] at h
 refine fun_of_go (fun t=>false) mixed tOk Tryz.func277 rfl rfl ?_
 conv=>whnf
 refine call_eq rfl rfl h ?_ ?_
 ·rw [ratD00];rfl
 ·conv=>whnf
  refine ⟨?_,trivial⟩
  conv=>whnf
  exact ⟨rfl,rfl,rfl,trivial⟩
theorem rst_pp{i off:Nat}{xs:List P2}{K:List D→Prop}(v:P2)(hi:i<xs.length)(ho:off=i*6)(k:K (pL (xs.set i v))):RstG 6 6 (pL xs) off (pD v) K:=by
 subst ho
 refine rst_intro _ ?_ rfl (pL_uni _) (by omega) k
 unfold setElem
 have h1:i*6/6=i:=by omega
 have h2:i*6%6=0:=by omega
 have hg:(pL xs)[i]? =some (pD xs[i]):=by simp [hi]
 simp only [h1,h2,hg]
 rw [show (pL (xs.set i v))=(pL xs).set i (pD v) from List.map_set ..]
 rfl
noncomputable def bxP(p:P2):List S:= [.d (.v (.bool (rneg p.1))),.d (.v (.string (rnum p.1))),.d (.v (.string (rden p.1))),.d (.v (.bool (rneg p.2))),.d (.v (.string (rnum p.2))),.d (.v (.string (rden p.2)))]
def noA(l A:List P2)(i:Nat):St:=⟨fr 141 [(0,.d (.l (pL l))),(3,.d (.l (pL A))),(4,.d (i64 i))], []⟩
noncomputable def noB(l A:List P2)(x:P2)(i k:Nat):St:=⟨fr 141 [(0,.d (.l (pL l))),(3,.d (.l (pL A))),(4,.d (i64 i)),(5,.ptr 0 0 0),(6,.own 1 0),(7,.d (i64 k))], [.box 147 (bxP x),.row 0 147 6 80 (pL (A.take k))]⟩
def noC(F:List P2)(i:Nat):St:=⟨fr 141 [(3,.d (.l (pL F))),(8,.own 0 0),(9,.d (i64 i))], [.row 0 147 6 80 (pL (nmL F i))]⟩
def noD(B:List P2)(i:Nat):St:=⟨fr 141 [(8,.own 0 0),(11,.d (i64 i))], [.row 0 147 6 80 (pL B)]⟩
theorem fnormal_c{n:Nat}{l:List P2}(h:Ia n l):Fun Tryz.prog 199 [.l (pL l)] [.l (pL (nmL (l.filter neB) (l.filter neB).length))] :=by
 have hll:(pL l).length=l.length:=by simp
 have hn:=h.n
 have hlen:=h.len
 refine fun_of_go (fun t=>t==5||t==12||t==29||t==63) mixed tOk Tryz.func199 rfl rfl ?_
 conv=>whnf
 refine loop_intro (fun t=>t==5||t==12||t==29||t==63) (fun i:Nat=>noA l ((l.take i).filter neB) i) (fun i=>i≤l.length) (fun i=>l.length-i) 0 mixed tOk (by omega) ?_ ?_
 ·unfold noA
  refine Weak.trans (weak_frz 1 _) ?_
  conv=>arg 1;whnf
  refine weak_dead 0 rfl ?_
  refine weak_r ?_ ?_<;>repeat' (first|exact trivial|exact rfl|apply And.intro)
 ·intro i hi
  obtain ⟨hfb,hfl⟩:=h.fil i
  conv=>whnf
  refine cond_d (fun hlt=> ?_) (fun hge=> ?_)
  ·have hlt':i<l.length:=by omega
   have hle:=h.fil_le hlt'
   have hft:=fil_take hlt'
   have bi:=h.b _ (List.getElem_mem hlt')
   have hget:=pL_get hlt'
   generalize (l.take i).filter neB=A at*
   generalize l[i] =x at*
   have qx:=bi.q (by omega)
   have hal:(pL A).length=A.length:=by simp
   conv=>whnf
   refine idx_intro (pD x) hget (by omega) (pL_uni l) ?_
   conv=>whnf
   refine call_data rfl rfl (fless5_c qx.1 qx.2) ?_
   conv=>whnf
   refine cond_nb (fun c1=> ?_) (fun c1=> ?_)
   ·rw [if_neg (by unfold neB;rw [c1];decide)] at hft
    conv=>whnf
    refine sd_d (by omega) ?_
    conv=>whnf
    refine ⟨i+1,by omega,by omega, ?_⟩
    unfold noA
    rw [hft,List.append_nil,Int.natCast_succ]
    refine weak_dead 0 rfl ?_
    refine weak_r ?_ ?_<;>repeat' (first|exact trivial|exact rfl|apply And.intro)
   ·rw [if_pos (by unfold neB;rw [c1])] at hft
    conv=>whnf
    refine loop_intro (fun t=>t==5||t==12||t==29||t==63) (fun k:Nat=>noB l A x i k) (fun k=>k≤A.length) (fun k=>A.length-k) 0 mixed tOk (by omega) ?_ ?_
    ·unfold noB bxP
     refine weak_r ?_ ?_<;>repeat' (first|exact trivial|exact rfl|apply And.intro)
    ·intro k hk
     conv=>whnf
     refine cond_d (fun hlt2=> ?_) (fun hge2=> ?_)
     ·have hk':k<A.length:=by omega
      have hxk:A[k].1≤x.1:=hle _ (List.getElem_mem _)
      have qk:=(hfb _ (List.getElem_mem hk')).q (by omega)
      have hlf:Fun Tryz.prog 276 [ratD x.1,ratD A[k].1] [.v (.bool false)] :=by
       have:=fless5_c qx.1 qk.1
       rwa [decide_eq_false (by grind)] at this
      have hst:pL (A.take (k+1))=pL (A.take k)++ [pD A[k]] :=by rw [List.take_succ_eq_append_getElem hk'];exact List.map_append ..
      have htl:(pL (A.take k)).length≤12:=by simp;omega
      conv=>whnf
      refine idx_intro (pD A[k]) (pL_get hk') (by omega) (pL_uni A) ?_
      conv=>whnf
      refine callv_data hlf ?_
      conv=>whnf
      refine safe_intro (by kernel_rfl) ?_
      conv=>whnf
      refine idx_intro (pD A[k]) (pL_get hk') (by omega) (pL_uni A) ?_
      conv=>whnf
      refine sd_app (pL_uni _) (by intro x hx;rcases List.mem_singleton.1 hx with rfl;rfl) (by simp only [maxLen,List.length_cons,List.length_nil];omega) ?_
      conv=>whnf
      refine sd_d (by omega) ?_
      conv=>whnf
      refine ⟨k+1,by omega,by omega, ?_⟩
      unfold noB bxP
      rw [hst,Int.natCast_succ]
      refine weak_r ?_ ?_<;>repeat' (first|exact trivial|exact rfl|apply And.intro)
     ·have hkE:k=A.length:=by omega
      subst hkE
      have hsub:pL (A.take A.length)++ [pD x] ++subL (pL A) ((A.length:Nat):Int).toNat ((pL A).length:Int).toNat=pL (A++ [x]):=by
       rw [List.take_length,subL,hal]
       simp
      have hsl2:(subL (pL A) ((A.length:Nat):Int).toNat ((pL A).length:Int).toNat).length=0:=by
       rw [subL,hal];simp
      have hu1:Uni 6 (pL (A.take A.length)++ [pD x]):=by
       intro z hz
       rcases List.mem_append.1 hz with h|h
       ·exact pL_uni _ z h
       ·rw [List.mem_singleton.1 h];rfl
      have hu2:Uni 6 (subL (pL A) ((A.length:Nat):Int).toNat ((pL A).length:Int).toNat):=by
       intro z hz
       rw [List.eq_nil_of_length_eq_zero hsl2] at hz
       simp at hz
      conv=>whnf
      refine safe_intro (by kernel_rfl) ?_
      conv=>whnf
      refine sd_app (pL_uni _) (by intro x hx;rcases List.mem_singleton.1 hx with rfl;rfl) (by simp only [maxLen,List.length_cons,List.length_nil,List.take_length];omega) ?_
      conv=>whnf
      refine sd_du (by omega) (pL_uni _) ?_
      conv=>whnf
      refine sd_app hu1 hu2 (by rw [hsl2];simp only [maxLen,List.length_append,List.length_cons,List.length_nil,List.take_length];omega) ?_
      conv=>whnf
      refine sd_d (by omega) ?_
      conv=>whnf
      refine ⟨i+1,by omega,by omega, ?_⟩
      unfold noA
      rw [hft, ←hsub,Int.natCast_succ]
      refine Weak.trans (weak_frz 1 _) ?_
      conv=>arg 1;whnf
      refine weak_dead 0 rfl ?_
      refine weak_r ?_ ?_<;>repeat' (first|exact trivial|exact rfl|apply And.intro)
  ·have hiE:i=l.length:=by omega
   subst hiE
   rw [List.take_length] at hfb hfl ⊢
   generalize l.filter neB=F at*
   have hFl:(pL F).length=F.length:=by simp
   conv=>whnf
   refine loop_intro (fun t=>t==5||t==12||t==29||t==63) (fun i:Nat=>noC F i) (fun i=>i≤F.length) (fun i=>F.length-i) 0 mixed tOk (by omega) ?_ ?_
   ·unfold noC
    refine weak_r ?_ ?_<;>repeat' (first|exact trivial|exact rfl|apply And.intro)
   ·intro i hi
    have hnl:=nmL_len i hi
    have hnb:=nmL_bp hfb i hi
    conv=>whnf
    refine cond_d (fun hlt=> ?_) (fun hge=> ?_)
    ·have hlt':i<F.length:=by omega
     have bi:=hfb _ (List.getElem_mem hlt')
     have qi:=bi.q (by omega)
     have hA:=nmL_succ hlt'
     have hget:=pL_get hlt'
     generalize F[i] =x at*
     generalize nmL F i=A at*
     have hal:(pL A).length=A.length:=by simp
     have hst:pL (A++ [x])=pL A++ [pD x] :=List.map_append ..
     conv=>whnf
     refine cond_d (fun c1=> ?_) (fun c1=> ?_)
     ·have hA0:0<A.length:=by omega
      have e3:((A.length:Int)-1).toNat=A.length-1:=by omega
      have bl:=(hnb _ (List.getElem_mem (show A.length-1<A.length by omega))).q (by omega)
      conv=>whnf
      refine sd_d (by omega) ?_
      conv=>whnf
      refine sd_du (by omega) (pL_uni _) ?_
      conv=>whnf
      refine rld_intro (i:=A.length-1) (r:=3) _ (ratD (A[A.length-1]).2) (by have:=pL_get (l:=A) (i:=A.length-1) (by omega);exact this) (by omega) (by omega) (pL_uni _) rfl ?_
      conv=>whnf
      refine idx_intro (pD x) hget (by omega) (pL_uni F) ?_
      conv=>whnf
      refine callv_data (fless5_c bl.2 qi.1) ?_
      conv=>whnf
      refine safe_intro (by kernel_rfl) ?_
      conv=>whnf
      refine cond_nb (fun c2=> ?_) (fun c2=> ?_)
      ·have c2': ¬(A[A.length-1]).2<x.1:=of_decide_eq_false c2
       conv=>whnf
       refine sd_d (by omega) ?_
       conv=>whnf
       refine sd_du (by omega) (pL_uni _) ?_
       conv=>whnf
       refine rld_intro (i:=A.length-1) (r:=3) _ (ratD (A[A.length-1]).2) (by have:=pL_get (l:=A) (i:=A.length-1) (by omega);exact this) (by omega) (by omega) (pL_uni _) rfl ?_
       conv=>whnf
       refine idx_intro (pD x) hget (by omega) (pL_uni F) ?_
       conv=>whnf
       refine callv_data (fless5_c bl.2 qi.2) ?_
       conv=>whnf
       refine safe_intro (by kernel_rfl) ?_
       conv=>whnf
       refine cond_intro (fun c3=> ?_) (fun c3=> ?_)
       ·have c3':(A[A.length-1]).2<x.2:=of_decide_eq_true c3
        have hs:nmS A x=A.set (A.length-1) ((A[A.length-1]).1,x.2):=by unfold nmS;rw [dif_pos hA0,if_neg c2',if_pos c3']
        conv=>whnf
        refine sd_d (by omega) ?_
        conv=>whnf
        refine idx_intro (pD x) hget (by omega) (pL_uni F) ?_
        conv=>whnf
        refine sd_du (by omega) (pL_uni _) ?_
        conv=>whnf
        refine rst_p2 (i:=A.length-1) x.2 (by omega) (by omega) ?_
        conv=>whnf
        refine sd_d (by omega) ?_
        conv=>whnf
        refine ⟨i+1,by omega,by omega, ?_⟩
        unfold noC
        rw [hA,hs,Int.natCast_succ]
        refine weak_r ?_ ?_<;>repeat' (first|exact trivial|exact rfl|apply And.intro)
       ·have c3': ¬(A[A.length-1]).2<x.2:=of_decide_eq_false c3
        have hs:nmS A x=A:=by unfold nmS;rw [dif_pos hA0,if_neg c2',if_neg c3']
        conv=>whnf
        refine sd_d (by omega) ?_
        conv=>whnf
        refine ⟨i+1,by omega,by omega, ?_⟩
        unfold noC
        rw [hA,hs,Int.natCast_succ]
        refine weak_r ?_ ?_<;>repeat' (first|exact trivial|exact rfl|apply And.intro)
      ·have c2':(A[A.length-1]).2<x.1:=of_decide_eq_true c2
       have hs:nmS A x=A++ [x] :=by unfold nmS;rw [dif_pos hA0,if_pos c2']
       conv=>whnf
       refine idx_intro (pD x) hget (by omega) (pL_uni F) ?_
       conv=>whnf
       refine sd_app (pL_uni _) (by intro x hx;rcases List.mem_singleton.1 hx with rfl;rfl) (by simp only [maxLen,List.length_cons,List.length_nil];omega) ?_
       conv=>whnf
       refine sd_d (by omega) ?_
       conv=>whnf
       refine ⟨i+1,by omega,by omega, ?_⟩
       unfold noC
       rw [hA,hs,hst,Int.natCast_succ]
       refine weak_r ?_ ?_<;>repeat' (first|exact trivial|exact rfl|apply And.intro)
     ·have hs:nmS A x=A++ [x] :=by unfold nmS;rw [dif_neg (by omega)]
      conv=>whnf
      refine safe_intro (by kernel_rfl) ?_
      conv=>whnf
      refine idx_intro (pD x) hget (by omega) (pL_uni F) ?_
      conv=>whnf
      refine sd_app (pL_uni _) (by intro x hx;rcases List.mem_singleton.1 hx with rfl;rfl) (by simp only [maxLen,List.length_cons,List.length_nil];omega) ?_
      conv=>whnf
      refine sd_d (by omega) ?_
      conv=>whnf
      refine ⟨i+1,by omega,by omega, ?_⟩
      unfold noC
      rw [hA,hs,hst,Int.natCast_succ]
      refine weak_r ?_ ?_<;>repeat' (first|exact trivial|exact rfl|apply And.intro)
    ·have hiE:i=F.length:=by omega
     subst hiE
     generalize nmL F F.length=B at*
     have hBl:(pL B).length=B.length:=by simp
     conv=>whnf
     refine loop_intro (fun t=>t==5||t==12||t==29||t==63) (fun i:Nat=>noD B i) (fun i=>i≤B.length) (fun i=>B.length-i) 0 mixed tOk (by omega) ?_ ?_
     ·unfold noD
      refine weak_r ?_ ?_<;>repeat' (first|exact trivial|exact rfl|apply And.intro)
     ·intro i hi
      conv=>whnf
      refine cond_d (fun hlt=> ?_) (fun hge=> ?_)
      ·have hlt':i<B.length:=by omega
       have qi:=(hnb _ (List.getElem_mem hlt')).q (by omega)
       have hget:=pL_get hlt'
       have hset:B.set i B[i] =B:=List.set_getElem_self hlt'
       conv=>whnf
       refine sd_du (by omega) (pL_uni _) ?_
       conv=>whnf
       refine rld_intro (i:=i) (r:=0) _ (ratD B[i].1) (by exact hget) (by omega) (by omega) (pL_uni _) rfl ?_
       conv=>whnf
       refine callv_data (fcanon5_c qi.1) ?_
       conv=>whnf
       refine sd_du (by omega) (pL_uni _) ?_
       conv=>whnf
       refine rld_intro (i:=i) (r:=3) _ (ratD B[i].2) (by exact hget) (by omega) (by omega) (pL_uni _) rfl ?_
       conv=>whnf
       refine callv_data (fcanon5_c qi.2) ?_
       conv=>whnf
       refine sd_du (by omega) (pL_uni _) ?_
       conv=>whnf
       refine rst_pp (i:=i) B[i] (by omega) (by omega) ?_
       rw [hset]
       conv=>whnf
       refine safe_intro (by kernel_rfl) ?_
       conv=>whnf
       refine sd_d (by omega) ?_
       conv=>whnf
       refine ⟨i+1,by omega,by omega, ?_⟩
       unfold noD
       rw [Int.natCast_succ]
       refine weak_r ?_ ?_<;>repeat' (first|exact trivial|exact rfl|apply And.intro)
      ·conv=>whnf
       refine ⟨?_,trivial⟩
       conv=>whnf
theorem fNormal_c{n:Nat}{l:List P2}(h:Ia n l):Fun Tryz.prog 112 [.l (pL l)] [.l (pL (nmL (l.filter neB) (l.filter neB).length)),i64 0] :=by
 have hll:(pL l).length=l.length:=by simp
 have hlen:=h.len
 refine fun_of_go (fun t=>false) mixed tOk Tryz.func112 rfl rfl ?_
 conv=>whnf
 refine cond_df (by omega) ?_
 conv=>whnf
 refine call_data rfl rfl (fnormal_c h) ?_
 conv=>whnf
 refine ⟨?_, ?_,trivial⟩
 ·conv=>whnf
 ·conv=>whnf
theorem fsame5_c(a:List P2)(hla:a.length≤1000000):Fun Tryz.prog 45 [.l (pL a),.l (pL a)] [.v (.bool true)] :=by
 have hll:(pL a).length=a.length:=by simp
 refine fun_of_go (fun t=>false) mixed tOk Tryz.func45 rfl rfl ?_
 conv=>whnf
 refine cond_bf (by simp) ?_
 conv=>whnf
 refine loop_intro (fun t=>false) (fun i:Nat=>⟨fr 26 [(0,.d (.l (pL a))),(1,.d (.l (pL a))),(5,.d (i64 i))], []⟩) (fun i=>i≤a.length) (fun i=>a.length-i) 0 mixed tOk (by omega) ?_ ?_
 ·refine weak_r ?_ ?_<;>repeat' (first|exact trivial|exact rfl|apply And.intro)
 ·intro i hi
  conv=>whnf
  refine cond_d (fun hlt=> ?_) (fun hge=> ?_)
  ·have hlt':i<a.length:=by omega
   conv=>whnf
   refine idx_intro (pD a[i]) (pL_get hlt') (by omega) (pL_uni a) ?_
   conv=>whnf
   refine idx_intro (pD a[i]) (pL_get hlt') (by omega) (pL_uni a) ?_
   conv=>whnf
   refine safe_intro (by kernel_rfl) ?_
   conv=>whnf
   have hce:eqDs (List.take ti147.cells (List.drop 0 (pD a[i]).cells)) (List.take ti147.cells (List.drop 0 (pD a[i]).cells))=true:=(eqDs_ptq a[i].1 a[i].2 a[i].1 a[i].2).trans (decide_eq_true ⟨rfl,rfl⟩)
   rw [hce]
   refine cond_bf (by decide) ?_
   conv=>whnf
   refine sd_d (by omega) ?_
   conv=>whnf
   refine ⟨i+1,by omega,by omega, ?_⟩
   rw [Int.natCast_succ]
   refine weak_r ?_ ?_<;>repeat' (first|exact trivial|exact rfl|apply And.intro)
  ·conv=>whnf
   refine ⟨?_,trivial⟩
   conv=>whnf
def flK(q:Rat):Int:=Int.fdiv q.num (q.den:Int)
theorem canon_sg(q:Rat):sg (canon q).neg (bv (canon q).num)=q.num:=by
 unfold canon sg
 simp only
 rw [bv_nb]
 by_cases h:q.num<0<;>simp [h] <;>omega
theorem canon_dv(q:Rat):dv (canon q).den=q.den:=by
 unfold canon
 simp only
 by_cases h:q.den=1
 ·rw [if_pos h,h];rfl
 ·rw [if_neg h];unfold dv;rw [bv_nb,if_neg (by have:=q.den_pos;omega)]
theorem floor_c{q:Rat}(hq:Q q):Fun Tryz.prog 200 [ratD q] [zD (flK q)] :=by
 have hs:=hq.sz
 unfold Sz at hs
 have h1:=of_c2 (canon q) (by omega)
 rw [←ratD_eq] at h1
 have h2:=div_c (canon q).neg false (canon q).num (dn (canon q).den) (by omega) (by have:=dn_size (canon q).den;omega) (by rw [bv_dn,canon_dv];have:=q.den_pos;omega)
 have e:sg false (bv (dn (canon q).den))=(q.den:Int):=by rw [bv_dn,canon_dv];rfl
 rw [canon_sg,e] at h2
 refine fun_of_go (fun t=>t==2||t==3||t==4||t==5) mixed tOk Tryz.func200 rfl rfl ?_
 conv=>whnf
 refine call_data rfl rfl h1 ?_
 conv=>whnf
 refine call_data rfl rfl h2 ?_
 conv=>whnf
 refine ⟨?_,trivial⟩
 conv=>whnf
 exact ⟨rfl,rfl,trivial⟩
theorem flK_le(q:Rat):(flK q:Rat)≤q∧q<(flK q:Rat)+1:=by
 have hd:=q.den_pos
 have hd':(0:Int)<(q.den:Int):=by omega
 have hdq:(0:Rat)<(q.den:Rat):=by exact_mod_cast hd
 have e:q*(q.den:Rat)=(q.num:Rat):=by
  have:=(Rat.mkRat_eq_div q.num q.den).symm.trans (Rat.mkRat_self q)
  have hne:(q.den:Rat)≠0:=by grind
  generalize (q.num:Rat)=N at*
  generalize (q.den:Rat)=D at*
  rw [←this];grind
 have k1:flK q*(q.den:Int)≤q.num:=by unfold flK;rw [Int.fdiv_eq_ediv_of_nonneg _ (by omega)];exact Int.ediv_mul_le _ (by omega)
 have k2:q.num<(flK q+1)*(q.den:Int):=by unfold flK;rw [Int.fdiv_eq_ediv_of_nonneg _ (by omega)];exact Int.lt_ediv_add_one_mul_self _ hd'
 have k1':(flK q:Rat)*(q.den:Rat)≤(q.num:Rat):=by exact_mod_cast k1
 have k2':(q.num:Rat)<((flK q:Rat)+1)*(q.den:Rat):=by exact_mod_cast k2
 rw [←e] at k1' k2'
 exact ⟨Rat.le_of_mul_le_mul_right k1' hdq,by
  by_cases h:q<(flK q:Rat)+1
  ·exact h
  ·have:=Rat.mul_le_mul_of_nonneg_right (show (flK q:Rat)+1≤q by grind) (show (0:Rat)≤(q.den:Rat) by grind)
   grind⟩
theorem flK_is{q:Rat}{k:Int}(h1:(k:Rat)≤q)(h2:q<(k:Rat)+1):flK q=k:=by
 obtain ⟨k1,k2⟩:=flK_le q
 have a1:(k:Rat)<((flK q+1:Int):Rat):=by push_cast;grind
 have a2:(flK q:Rat)<((k+1:Int):Rat):=by push_cast;grind
 have b1:k<flK q+1:=by exact_mod_cast a1
 have b2:flK q<k+1:=by exact_mod_cast a2
 omega
theorem nb_dig{k:Nat}(h:1≤k∧k≤9):nb k=⟨#[UInt8.ofNat k]⟩:=by
 have:k=1∨k=2∨k=3∨k=4∨k=5∨k=6∨k=7∨k=8∨k=9:=by omega
 clear h
 rcases this with h|h|h|h|h|h|h|h|h<;>rw [h] <;>clear h
 ·exact (by kernel_rfl:nb 1=⟨#[UInt8.ofNat 1]⟩)
 ·exact (by kernel_rfl:nb 2=⟨#[UInt8.ofNat 2]⟩)
 ·exact (by kernel_rfl:nb 3=⟨#[UInt8.ofNat 3]⟩)
 ·exact (by kernel_rfl:nb 4=⟨#[UInt8.ofNat 4]⟩)
 ·exact (by kernel_rfl:nb 5=⟨#[UInt8.ofNat 5]⟩)
 ·exact (by kernel_rfl:nb 6=⟨#[UInt8.ofNat 6]⟩)
 ·exact (by kernel_rfl:nb 7=⟨#[UInt8.ofNat 7]⟩)
 ·exact (by kernel_rfl:nb 8=⟨#[UInt8.ofNat 8]⟩)
 ·exact (by kernel_rfl:nb 9=⟨#[UInt8.ofNat 9]⟩)
@[irreducible] def chI(q:Rat):Int:=if q=0 then 46 else if q=1 then 35 else 48+flK (q*((10:Int):Rat))
theorem of10:Fun Tryz.prog 15 [i64 10] [ratD ((10:Int):Rat)] :=of_r 10 (by omega)
theorem chI_rng{q:Rat}(h0:0≤q)(h1:q≤1)(hz:q≠0)(ho:q≠1):0≤flK (q*((10:Int):Rat))∧flK (q*((10:Int):Rat))≤9:=by
 obtain ⟨k1,k2⟩:=flK_le (q*((10:Int):Rat))
 have e10:((10:Int):Rat)=10:=rfl
 rw [e10] at*
 constructor
 ·have:((0:Int):Rat)<((flK (q*10)+1:Int):Rat):=by push_cast;grind
  have:(0:Int)<flK (q*10)+1:=by exact_mod_cast this
  omega
 ·have:((flK (q*10):Int):Rat)<((10:Int):Rat):=by rw [e10];grind
  have:flK (q*10)<10:=by exact_mod_cast this
  omega
theorem pchar_c{q:Rat}(hq:Q q)(hq2:Q (q*((10:Int):Rat)))(h0:0≤q)(h1:q≤1):Fun Tryz.prog 113 [ratD q] [.v (.int .u8 (chI q))] :=by
 have h11:=of_r 1 (by omega)
 rw [Rat.intCast_one] at h11
 have hfl:=floor_c hq2
 refine fun_of_go (fun t=>t==3) mixed tOk Tryz.func113 rfl rfl ?_
 conv=>whnf
 refine callv_data of10 ?_
 conv=>whnf
 refine callv_data (mul_q hq (.mk (bd_int 10 (n:=1) (by decide)) (by omega))) ?_
 conv=>whnf
 refine callv_data hfl ?_
 conv=>whnf
 refine safe_intro (by kernel_rfl) ?_
 conv=>whnf
 refine call_data rfl rfl (sign_q hq) ?_
 conv=>whnf
 refine cond_e (fun c1=> ?_) (fun c1=> ?_)
 ·rw [show chI q=46 by unfold chI;rw [if_pos (sgnI_zero.1 c1)]]
  conv=>whnf
  exact ⟨rfl,trivial⟩
 have hz:q≠0:=fun h=>c1 (sgnI_zero.2 h)
 conv=>whnf
 refine callv_data h11 ?_
 conv=>whnf
 refine callv_data (cmp_q hq (.mk (bd_int 1 (n:=0) (by simp)) (by omega))) ?_
 conv=>whnf
 refine safe_intro (by kernel_rfl) ?_
 conv=>whnf
 refine cond_e (fun c2=> ?_) (fun c2=> ?_)
 ·rw [show chI q=35 by unfold chI;rw [if_neg hz,if_pos (cmpI_zero.1 c2)]]
  conv=>whnf
  exact ⟨rfl,trivial⟩
 have ho:q≠1:=fun h=>c2 (cmpI_zero.2 h)
 obtain ⟨r1,r2⟩:=chI_rng h0 h1 hz ho
 have ec:chI q=48+flK (q*((10:Int):Rat)):=by unfold chI;rw [if_neg hz,if_neg ho]
 rw [ec]
 generalize flK (q*((10:Int):Rat))=K at*
 obtain ⟨k,rfl⟩: ∃k:Nat,K=k:=⟨K.toNat,by omega⟩
 have ez:zD (k:Int)= .a [.v (.bool false),.v (.string (nb k))] :=by
  show D.a [.v (.bool (ng (k:Int))),.v (.string (nb (k:Int).natAbs))] =_
  rw [Int.natAbs_natCast,ng_eq,decide_eq_false (by omega)]
 rw [ez]
 by_cases hk:k=0
 ·subst hk
  rw [nb_zero]
  conv=>whnf
  refine cond_bt (by decide) ?_
  conv=>whnf
  exact ⟨rfl,trivial⟩
 ·have hd:=nb_dig (k:=k) (by omega)
  conv=>whnf
  refine cond_intro (fun c=> ?_) (fun c=> ?_)
  ·rw [bz_eq,nb_ne,decide_eq_true_eq] at c
   exact absurd c hk
  rw [hd]
  conv=>whnf
  refine sd_d ⟨by decide,Int.zero_lt_one⟩ ?_
  conv=>whnf
  have hb:(48+bt (⟨#[UInt8.ofNat k]⟩:ByteArray) 0)%256=48+(k:Int):=by
   have:bt (⟨#[UInt8.ofNat k]⟩:ByteArray) 0=(k:Int):=by
    show ((UInt8.ofNat k).toNat:Int)=k
    rw [UInt8.toNat_ofNat']
    have:k%2^8=k:=Nat.mod_eq_of_lt (by omega)
    rw [this]
   rw [this];omega
  rw [hb]
  refine ⟨?_,trivial⟩
  conv=>whnf
end Go.Nv
end
