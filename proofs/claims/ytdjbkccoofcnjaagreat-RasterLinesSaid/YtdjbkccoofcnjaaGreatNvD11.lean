import Derived.Test.YtdjbkccoofcnjaaGreatNvD10
import Derived.Test.YtdjbkccoofcnjaaGreatNvD3
import Derived.Test.YtdjbkccoofcnjaaGreatNvD2
import Derived.Test.YtdjbkccoofcnjaaGreatNvD5
set_option linter.all false
set_option maxRecDepth 100000
section
namespace Go.Nv
open Go.Proofs Nw
theorem fvcheck_q{x y:Rat}(hx:Q x)(hy:Q y):Fun Tryz.prog 73 [ptD x y] [i64 0] :=by
 have h:=rvcheck_c (canon x) (canon y) hx.sz hy.sz
 rw [okP_zero.2 ⟨by rw [val_canon],by rw [val_canon]⟩] at h
 have e:ptD x y=ptR (canon x) (canon y):=by unfold ptD ptR rneg rnum rden;rfl
 rw [e];exact h
theorem fless_c{p q:Rat}(hp:Q p)(hq:Q q):Fun Tryz.prog 109 [ratD p,ratD q] [.v (.bool (decide (p<q)))] :=by
 refine fun_of_go (fun t=>false) mixed tOk Tryz.func109 rfl rfl ?_
 conv=>whnf
 refine call_data rfl rfl (rcmp_q hp hq) ?_
 conv=>whnf
 refine ⟨?_,trivial⟩
 conv=>whnf
 rw [bz_eq,decide_eq_decide]
 exact cmpI_neg
theorem fcross_c{p q:P2}{n:Nat}(hp:BP n p)(hq:BP n q)(hn:n<1000000000):Fun Tryz.prog 178 [pD p,pD q] [ratD (crQ p q)] :=by
 refine fun_of_go (fun t=>t==4) mixed tOk Tryz.func178 rfl rfl ?_
 conv=>whnf
 refine callv_data (rmul_q (.mk hp.1 (by omega)) (.mk hq.2 (by omega))) ?_
 conv=>whnf
 refine callv_data (rmul_q (.mk hp.2 (by omega)) (.mk hq.1 (by omega))) ?_
 conv=>whnf
 refine callv_data (rsub_q (.mk (hp.1.mul hq.2) (by omega)) (.mk (hp.2.mul hq.1) (by omega))) ?_
 conv=>whnf
 refine safe_intro (by kernel_rfl) ?_
 conv=>whnf
 refine ⟨?_,trivial⟩
 conv=>whnf
 exact ⟨rfl,rfl,rfl,trivial⟩
def doQ(p q:P2):Rat:=p.1*q.1+p.2*q.2
theorem fdot_c{p q:P2}{n:Nat}(hp:BP n p)(hq:BP n q)(hn:n<1000000000):Fun Tryz.prog 343 [pD p,pD q] [ratD (doQ p q)] :=by
 refine fun_of_go (fun t=>t==4) mixed tOk Tryz.func343 rfl rfl ?_
 conv=>whnf
 refine callv_data (rmul_q (.mk hp.1 (by omega)) (.mk hq.1 (by omega))) ?_
 conv=>whnf
 refine callv_data (rmul_q (.mk hp.2 (by omega)) (.mk hq.2 (by omega))) ?_
 conv=>whnf
 refine callv_data (radd_q (.mk (hp.1.mul hq.1) (by omega)) (.mk (hp.2.mul hq.2) (by omega))) ?_
 conv=>whnf
 refine safe_intro (by kernel_rfl) ?_
 conv=>whnf
 refine ⟨?_,trivial⟩
 conv=>whnf
 exact ⟨rfl,rfl,rfl,trivial⟩
theorem forient_c{a b c:P2}{n:Nat}(ha:BP n a)(hb:BP n b)(hc:BP n c)(hn:n<100000000):Fun Tryz.prog 246 [pD a,pD b,pD c] [i64 (orI a b c)] :=by
 have qa:=ha.q (by omega)
 have qb:=hb.q (by omega)
 have qc:=hc.q (by omega)
 refine fun_of_go (fun t=>false) mixed tOk Tryz.func246 rfl rfl ?_
 conv=>whnf
 refine callv_data (fsub_c qb.1 qb.2 qa.1 qa.2) ?_
 conv=>whnf
 refine callv_data (fsub_c qc.1 qc.2 qa.1 qa.2) ?_
 conv=>whnf
 refine callv_data (fcross_c (hb.su ha) (hc.su ha) (by omega)) ?_
 conv=>whnf
 refine callv_data (rsign_q (.mk ((hb.su ha).cr (hc.su ha)) (by omega))) ?_
 conv=>whnf
 refine safe_intro (by kernel_rfl) ?_
 conv=>whnf
 refine ⟨?_,trivial⟩
 conv=>whnf
 unfold orI
 rfl
def beB(a b p:P2):Bool:=decide (orI a b p=0)&&decide (sgnI (doQ (su a p) (su b p))≤0)
theorem fbetween_c{a b c:P2}{n:Nat}(ha:BP n a)(hb:BP n b)(hc:BP n c)(hn:n<100000000):Fun Tryz.prog 309 [pD a,pD b,pD c] [.v (.bool (beB a b c))] :=by
 have qa:=ha.q (by omega)
 have qb:=hb.q (by omega)
 have qc:=hc.q (by omega)
 have hd:Q (doQ (su a c) (su b c)):= .mk (((ha.su hc).1.mul (hb.su hc).1).add ((ha.su hc).2.mul (hb.su hc).2)) (by omega)
 refine fun_of_go (fun t=>false) mixed tOk Tryz.func309 rfl rfl ?_
 conv=>whnf
 refine call_data rfl rfl (forient_c ha hb hc hn) ?_
 conv=>whnf
 refine cond_ne (fun c1=> ?_) (fun c1=> ?_)
 ·rw [show beB a b c=false by unfold beB;rw [decide_eq_false c1];rfl]
  conv=>whnf
  refine ⟨?_,trivial⟩
  conv=>whnf
 ·rw [show beB a b c=decide (sgnI (doQ (su a c) (su b c))≤0) by unfold beB;rw [decide_eq_true c1];rfl]
  conv=>whnf
  refine callv_data (fsub_c qa.1 qa.2 qc.1 qc.2) ?_
  conv=>whnf
  refine callv_data (fsub_c qb.1 qb.2 qc.1 qc.2) ?_
  conv=>whnf
  refine callv_data (fdot_c (ha.su hc) (hb.su hc) (by omega)) ?_
  conv=>whnf
  refine callv_data (rsign_q hd) ?_
  conv=>whnf
  refine safe_intro (by kernel_rfl) ?_
  conv=>whnf
  refine ⟨?_,trivial⟩
  conv=>whnf
  rw [bz_eq]
theorem fcmp2_c{p q:P2}(hp:QP p)(hq:QP q):Fun Tryz.prog 164 [pD p,pD q] [i64 (cmP p q)] :=by
 have:=fcmp_c hp.1 hp.2 hq.1 hq.2
 unfold cmP;exact this
def gtP2(p q:P2):P2:=if cmP p q<0 then q else p
def ltP2(p q:P2):P2:=if cmP p q<0 then p else q
theorem fgreater_c{p q:P2}(hp:QP p)(hq:QP q):Fun Tryz.prog 304 [pD p,pD q] [pD (gtP2 p q)] :=by
 refine fun_of_go (fun t=>t==4) mixed tOk Tryz.func304 rfl rfl ?_
 conv=>whnf
 refine call_data rfl rfl (fcmp2_c hp hq) ?_
 conv=>whnf
 refine cond_d (fun c1=> ?_) (fun c1=> ?_)
 ·rw [show gtP2 p q=q by unfold gtP2;rw [if_pos c1]]
  conv=>whnf
  refine ⟨?_,trivial⟩
  conv=>whnf
  exact ⟨rfl,rfl,rfl,rfl,rfl,rfl,trivial⟩
 ·rw [show gtP2 p q=p by unfold gtP2;rw [if_neg c1]]
  conv=>whnf
  refine ⟨?_,trivial⟩
  conv=>whnf
  exact ⟨rfl,rfl,rfl,rfl,rfl,rfl,trivial⟩
theorem flesser_c{p q:P2}(hp:QP p)(hq:QP q):Fun Tryz.prog 305 [pD p,pD q] [pD (ltP2 p q)] :=by
 refine fun_of_go (fun t=>t==4) mixed tOk Tryz.func305 rfl rfl ?_
 conv=>whnf
 refine call_data rfl rfl (fcmp2_c hp hq) ?_
 conv=>whnf
 refine cond_d (fun c1=> ?_) (fun c1=> ?_)
 ·rw [show ltP2 p q=p by unfold ltP2;rw [if_pos c1]]
  conv=>whnf
  refine ⟨?_,trivial⟩
  conv=>whnf
  exact ⟨rfl,rfl,rfl,rfl,rfl,rfl,trivial⟩
 ·rw [show ltP2 p q=q by unfold ltP2;rw [if_neg c1]]
  conv=>whnf
  refine ⟨?_,trivial⟩
  conv=>whnf
  exact ⟨rfl,rfl,rfl,rfl,rfl,rfl,trivial⟩
theorem fnext_c{l:List P2}{i:Nat}(h:i<l.length)(hl:l.length≤1000):Fun Tryz.prog 179 [.l (pL l),i64 i] [pD (l[(i+1)%l.length]'(mod_lt' h))] :=by
 have hll:(pL l).length=l.length:=by simp
 refine fun_of_go (fun t=>t==4) mixed tOk Tryz.func179 rfl rfl ?_
 conv=>whnf
 refine sd_d (by omega) ?_
 conv=>whnf
 refine sd_d (by omega) ?_
 conv=>whnf
 refine idx_intro (pD (l[(i+1)%l.length]'(mod_lt' h))) (nx_get h) (nx_nn _ _) (pL_uni l) ?_
 conv=>whnf
 refine ⟨?_,trivial⟩
 conv=>whnf
 exact ⟨rfl,rfl,rfl,rfl,rfl,rfl,trivial⟩
theorem fnextI_c{l:List P2}{i:Nat}(h:i<l.length)(hl:l.length≤1000):Fun Tryz.prog 179 [.l (pL l),i64 i] [pD (ix l (i+1))] :=by
 rw [ix_mod (by omega)]
 exact fnext_c h hl
theorem fscanon_c{p:P2}{n:Nat}(hp:BP n p)(hn:n<1000000):Fun Tryz.prog 342 [pD p] [pD p] :=by
 have h0:Q 0:= .mk (bd_int 0 (n:=0) (by simp)) (by omega)
 have qp:=hp.q (by omega)
 have h:=fadd_c qp.1 qp.2 h0 h0
 rw [Q.add0,Q.add0] at h
 refine fun_of_go (fun t=>t==2) mixed tOk Tryz.func342 rfl rfl ?_
 conv=>whnf
 refine call_eq rfl rfl h ?_ ?_
 ·rw [ptD00];rfl
 ·conv=>whnf
  refine ⟨?_,trivial⟩
  conv=>whnf
  exact ⟨rfl,rfl,rfl,rfl,rfl,rfl,trivial⟩
def btB(s:P2×P2)(p:P2):Bool:=decide (cmP s.1 p≤0)&&decide (cmP p s.2≤0)
theorem fsbetween_c{a b p:P2}(ha:QP a)(hb:QP b)(hp:QP p):Fun Tryz.prog 306 [sD a b,pD p] [.v (.bool (btB (a,b) p))] :=by
 refine fun_of_go (fun t=>false) mixed tOk Tryz.func306 rfl rfl ?_
 conv=>whnf
 refine call_data rfl rfl (fcmp2_c ha hp) ?_
 conv=>whnf
 refine cond_d (fun c1=> ?_) (fun c1=> ?_)
 ·rw [show btB (a,b) p=decide (cmP p b≤0) by unfold btB;rw [decide_eq_true c1];rfl]
  conv=>whnf
  refine call_data rfl rfl (fcmp2_c hp hb) ?_
  conv=>whnf
  refine ⟨?_,trivial⟩
  conv=>whnf
  rw [bz_eq]
 ·rw [show btB (a,b) p=false by unfold btB;rw [decide_eq_false c1];rfl]
  conv=>whnf
  refine ⟨?_,trivial⟩
  conv=>whnf
def orS(a b:P2):P2×P2:=if 0<cmP a b then (b,a) else (a,b)
theorem forder_c{a b:P2}{n:Nat}(ha:BP n a)(hb:BP n b)(hn:n<1000000):Fun Tryz.prog 303 [sD a b] [sD (orS a b).1 (orS a b).2] :=by
 have qa:=ha.q (by omega)
 have qb:=hb.q (by omega)
 refine fun_of_go (fun t=>t==2) mixed tOk Tryz.func303 rfl rfl ?_
 conv=>whnf
 refine call_data rfl rfl (fcmp2_c qa qb) ?_
 conv=>whnf
 refine cond_d (fun c1=> ?_) (fun c1=> ?_)
 ·rw [show orS a b=(b,a) by unfold orS;rw [if_pos (by omega)]]
  conv=>whnf
  refine callv_data (fscanon_c hb hn) ?_
  conv=>whnf
  refine callv_data (fscanon_c ha hn) ?_
  conv=>whnf
  refine safe_intro (by kernel_rfl) ?_
  conv=>whnf
  refine ⟨?_,trivial⟩
  conv=>whnf
  exact ⟨rfl,rfl,rfl,rfl,rfl,rfl,rfl,rfl,rfl,rfl,rfl,rfl,trivial⟩
 ·rw [show orS a b=(a,b) by unfold orS;rw [if_neg (by omega)]]
  conv=>whnf
  refine callv_data (fscanon_c ha hn) ?_
  conv=>whnf
  refine callv_data (fscanon_c hb hn) ?_
  conv=>whnf
  refine safe_intro (by kernel_rfl) ?_
  conv=>whnf
  refine ⟨?_,trivial⟩
  conv=>whnf
  exact ⟨rfl,rfl,rfl,rfl,rfl,rfl,rfl,rfl,rfl,rfl,rfl,rfl,trivial⟩
def onEd(l:List P2)(p:P2)(i:Nat):Bool:=beB (ix l i) (ix l (i+1)) p
theorem fon_c{l:List P2}{p:P2}{n:Nat}(hl: ∀p∈l,BP n p)(hp:BP n p)(hn:n<1000000)(hlen:l.length≤1000):Fun Tryz.prog 319 [.l (pL l),pD p] [.v (.bool ((List.range l.length).any (onEd l p)))] :=by
 have hll:(pL l).length=l.length:=by simp
 refine fun_of_go (fun t=>false) mixed tOk Tryz.func319 rfl rfl ?_
 conv=>whnf
 refine loop_intro (fun t=>false) (fun i:Nat=>⟨fr 21 [(0,.d (.l (pL l))),(3,.d (.p 0 (pD p).cells)),(5,.d (i64 i))], []⟩) (fun i=>i≤l.length∧ ∀j,j<i→onEd l p j=false) (fun i=>l.length-i) 0 mixed tOk ⟨by omega,fun j hj=>by omega⟩ ?_ ?_
 ·refine weak_r ?_ ?_<;>repeat' (first|exact trivial|exact rfl|apply And.intro)
 ·rintro i ⟨hi,hno⟩
  conv=>whnf
  refine cond_d (fun hlt=> ?_) (fun hge=> ?_)
  ·have hlt':i<l.length:=by omega
   have b1:=hl _ (ix_mem (l:=l) (k:=i) (by omega))
   have b2:=hl _ (ix_mem (l:=l) (k:=i+1) (by omega))
   conv=>whnf
   refine idx_intro (pD (ix l i)) (ix_at hlt') (by omega) (pL_uni l) ?_
   conv=>whnf
   refine callv_data (fnextI_c hlt' hlen) ?_
   conv=>whnf
   refine callv_data (fbetween_c b1 b2 hp (by omega)) ?_
   conv=>whnf
   refine safe_intro (by kernel_rfl) ?_
   conv=>whnf
   cases hb:beB (ix l i) (ix l (i+1)) p with
   |true=>
    rw [show (List.range l.length).any (onEd l p)=true from List.any_eq_true.2 ⟨i,by simpa using hlt',hb⟩]
    conv=>whnf
    refine ⟨?_,trivial⟩
    conv=>whnf
   |false=>
    conv=>whnf
    refine sd_d (by omega) ?_
    conv=>whnf
    refine ⟨i+1,⟨by omega,fun j hj=> ?_⟩,by omega, ?_⟩
    ·by_cases e:j=i
     ·subst e;exact hb
     ·exact hno j (by omega)
    ·rw [Int.natCast_succ]
     refine weak_r ?_ ?_<;>repeat' (first|exact trivial|exact rfl|apply And.intro)
  ·have hiE:i=l.length:=by omega
   rw [show (List.range l.length).any (onEd l p)=false by
    rw [List.any_eq_false];intro j hj;rw [hno j (by have:=List.mem_range.1 hj;omega)];decide]
   conv=>whnf
   refine ⟨?_,trivial⟩
   conv=>whnf
theorem odE_cases(a b p:P2):odE p (a,b)=if abB p a=abB p b then false else if abB p b then decide (0<orI a b p) else decide (0<orI b a p):=by
 unfold odE swE
 simp only
 cases ha:abB p a<;>cases hb:abB p b<;>simp [ha,hb]
theorem fodd_c{l:List P2}{p:P2}{n:Nat}(hl: ∀p∈l,BP n p)(hp:BP n p)(hn:n<1000000)(hlen:l.length≤1000):Fun Tryz.prog 320 [.l (pL l),pD p] [.v (.bool (odB l p))] :=by
 have hll:(pL l).length=l.length:=by simp
 have qp:=hp.q (by omega)
 refine fun_of_go (fun t=>t==7||t==8) mixed tOk Tryz.func320 rfl rfl ?_
 conv=>whnf
 refine loop_intro (fun t=>t==7||t==8) (fun i:Nat=>⟨fr 50 [(0,.d (.l (pL l))),(3,.d (.p 0 (pD p).cells)),(5,.d (.v (.bool (((cyc l).take i).foldl (odF p) false)))),(6,.d (i64 i))], []⟩) (fun i=>i≤l.length) (fun i=>l.length-i) 0 mixed tOk (by omega) ?_ ?_
 ·refine weak_r ?_ ?_<;>repeat' (first|exact trivial|exact rfl|apply And.intro)
 ·intro i hi
  conv=>whnf
  refine cond_d (fun hlt=> ?_) (fun hge=> ?_)
  ·have hlt':i<l.length:=by omega
   have hm:=mod_lt' hlt'
   have b1:=hl l[i] (List.getElem_mem _)
   have b2:=hl (l[(i+1)%l.length]'hm) (List.getElem_mem _)
   have hcy:=cyc_take hlt'
   have hfo:((cyc l).take (i+1)).foldl (odF p) false=odF p (((cyc l).take i).foldl (odF p) false) (l[i],l[(i+1)%l.length]'hm):=by rw [hcy,List.foldl_append];rfl
   have hnx:=fnext_c hlt' hlen
   have hgt:=pL_get hlt'
   generalize ((cyc l).take i).foldl (odF p) false=z at*
   generalize l[i] =a at*
   generalize l[(i+1)%l.length] =b at*
   have q1:=b1.q (by omega)
   have q2:=b2.q (by omega)
   conv=>whnf
   refine idx_intro (pD a) hgt (by omega) (pL_uni l) ?_
   conv=>whnf
   refine callv_data hnx ?_
   conv=>whnf
   refine safe_intro (by kernel_rfl) ?_
   conv=>whnf
   refine callv_data (rcmp_q q1.2 qp.2) ?_
   conv=>whnf
   refine callv_data (rcmp_q q2.2 qp.2) ?_
   conv=>whnf
   refine safe_intro (by kernel_rfl) ?_
   conv=>whnf
   have ga:bz (decide (cmpI a.2 p.2>0))=abB p a:=by rw [bz_eq];rfl
   have gb:bz (decide (cmpI b.2 p.2>0))=abB p b:=by rw [bz_eq];rfl
   rw [ga,gb]
   have hoe:=odE_cases a b p
   generalize abB p a=za at*
   generalize abB p b=zb at*
   refine cond_intro (fun c1=> ?_) (fun c1=> ?_)
   ·have hz:za=zb:=by rw [bz_eq] at c1;simpa using c1
    rw [if_pos hz] at hoe
    have ho:odF p z (a,b)=z:=by unfold odF;rw [hoe];rfl
    rw [ho] at hfo
    conv=>whnf
    refine sd_d (by omega) ?_
    conv=>whnf
    refine ⟨i+1,by omega,by omega, ?_⟩
    rw [hfo,Int.natCast_succ]
    refine weak_dead 0 rfl ?_
    refine weak_dead 1 rfl ?_
    refine weak_r ?_ ?_<;>repeat' (first|exact trivial|exact rfl|apply And.intro)
   ·have hz:za≠zb:=by rw [bz_eq] at c1;simpa using c1
    rw [if_neg hz] at hoe
    conv=>whnf
    refine cond_intro (fun c2=> ?_) (fun c2=> ?_)
    ·rw [if_pos c2] at hoe
     conv=>whnf
     refine call_data rfl rfl (forient_c b1 b2 hp (by omega)) ?_
     conv=>whnf
     refine cond_d (fun c3=> ?_) (fun c3=> ?_)
     ·rw [decide_eq_true (show 0<orI a b p from c3)] at hoe
      have ho:odF p z (a,b)= !z:=by unfold odF;rw [hoe];rfl
      rw [ho] at hfo
      conv=>whnf
      refine sd_d (by omega) ?_
      conv=>whnf
      refine ⟨i+1,by omega,by omega, ?_⟩
      rw [hfo,Int.natCast_succ]
      refine weak_dead 0 rfl ?_
      refine weak_dead 1 rfl ?_
      refine weak_r ?_ ?_<;>repeat' (first|exact trivial|exact rfl|apply And.intro)
     ·rw [decide_eq_false (show¬0<orI a b p from c3)] at hoe
      have ho:odF p z (a,b)=z:=by unfold odF;rw [hoe];rfl
      rw [ho] at hfo
      conv=>whnf
      refine sd_d (by omega) ?_
      conv=>whnf
      refine ⟨i+1,by omega,by omega, ?_⟩
      rw [hfo,Int.natCast_succ]
      refine weak_dead 0 rfl ?_
      refine weak_dead 1 rfl ?_
      refine weak_r ?_ ?_<;>repeat' (first|exact trivial|exact rfl|apply And.intro)
    ·rw [if_neg (by rw [c2];decide)] at hoe
     conv=>whnf
     refine call_data rfl rfl (forient_c b2 b1 hp (by omega)) ?_
     conv=>whnf
     refine cond_d (fun c3=> ?_) (fun c3=> ?_)
     ·rw [decide_eq_true (show 0<orI b a p from c3)] at hoe
      have ho:odF p z (a,b)= !z:=by unfold odF;rw [hoe];rfl
      rw [ho] at hfo
      conv=>whnf
      refine sd_d (by omega) ?_
      conv=>whnf
      refine ⟨i+1,by omega,by omega, ?_⟩
      rw [hfo,Int.natCast_succ]
      refine weak_dead 0 rfl ?_
      refine weak_dead 1 rfl ?_
      refine weak_r ?_ ?_<;>repeat' (first|exact trivial|exact rfl|apply And.intro)
     ·rw [decide_eq_false (show¬0<orI b a p from c3)] at hoe
      have ho:odF p z (a,b)=z:=by unfold odF;rw [hoe];rfl
      rw [ho] at hfo
      conv=>whnf
      refine sd_d (by omega) ?_
      conv=>whnf
      refine ⟨i+1,by omega,by omega, ?_⟩
      rw [hfo,Int.natCast_succ]
      refine weak_dead 0 rfl ?_
      refine weak_dead 1 rfl ?_
      refine weak_r ?_ ?_<;>repeat' (first|exact trivial|exact rfl|apply And.intro)
  ·have hiE:i=l.length:=by omega
   subst hiE
   conv=>whnf
   refine ⟨?_,trivial⟩
   conv=>whnf
   unfold odB
   rw [show (cyc l).take l.length=cyc l from by rw [←cyc_len l];exact List.take_length]
def sdI(l:List P2)(p:P2):Int:=if (List.range l.length).any (onEd l p) then 0 else if odB l p then 1 else-1
theorem fside_c{l:List P2}{p:P2}{n:Nat}(hl: ∀p∈l,BP n p)(hp:BP n p)(hn:n<1000000)(hlen:l.length≤1000):Fun Tryz.prog 261 [.l (pL l),pD p] [i64 (sdI l p)] :=by
 have h1:=fon_c hl hp hn hlen
 have h2:=fodd_c hl hp hn hlen
 unfold sdI
 cases ho:(List.range l.length).any (onEd l p) with
 |true=>
  rw [ho] at h1
  refine fun_of_go (fun t=>false) mixed tOk Tryz.func261 rfl rfl ?_
  conv=>whnf
  refine call_data rfl rfl h1 ?_
  conv=>whnf
  refine ⟨?_,trivial⟩
  conv=>whnf
  rfl
 |false=>
  rw [ho] at h1
  cases hd:odB l p with
  |true=>
   rw [hd] at h2
   refine fun_of_go (fun t=>false) mixed tOk Tryz.func261 rfl rfl ?_
   conv=>whnf
   refine call_data rfl rfl h1 ?_
   conv=>whnf
   refine call_data rfl rfl h2 ?_
   conv=>whnf
   refine ⟨?_,trivial⟩
   conv=>whnf
   rfl
  |false=>
   rw [hd] at h2
   refine fun_of_go (fun t=>false) mixed tOk Tryz.func261 rfl rfl ?_
   conv=>whnf
   refine call_data rfl rfl h1 ?_
   conv=>whnf
   refine call_data rfl rfl h2 ?_
   conv=>whnf
   refine ⟨?_,trivial⟩
   conv=>whnf
   rfl
def rmB(a b c d:P2):Bool:=beB a b c||beB a b d||beB c d a||beB c d b||(decide (orI a b c*orI a b d<0)&&decide (orI c d a*orI c d b<0))
theorem orI_rng(a b c:P2): -1≤orI a b c∧orI a b c≤1:=by
 unfold orI
 rw [sgnI_eq]
 unfold sgnQ
 split
 ·omega
 ·split<;>omega
theorem mul_rng{x y:Int}(hx: -1≤x∧x≤1)(hy: -1≤y∧y≤1): -1≤x*y∧x*y≤1:=by
 have h1:x= -1∨x=0∨x=1:=by omega
 have h2:y= -1∨y=0∨y=1:=by omega
 rcases h1 with rfl|rfl|rfl<;>rcases h2 with rfl|rfl|rfl<;>decide
theorem frmeet_c{a b c d:P2}{n:Nat}(ha:BP n a)(hb:BP n b)(hc:BP n c)(hd:BP n d)(hn:n<1000000):Fun Tryz.prog 302 [pD a,pD b,pD c,pD d] [.v (.bool (rmB a b c d))] :=by
 have k1:=fbetween_c ha hb hc (by omega)
 have k2:=fbetween_c ha hb hd (by omega)
 have k3:=fbetween_c hc hd ha (by omega)
 have k4:=fbetween_c hc hd hb (by omega)
 have r1:=mul_rng (orI_rng a b c) (orI_rng a b d)
 have r2:=mul_rng (orI_rng c d a) (orI_rng c d b)
 unfold rmB
 generalize beB a b c=z1 at*
 generalize beB a b d=z2 at*
 generalize beB c d a=z3 at*
 generalize beB c d b=z4 at*
 cases z1 with
 |true=>
  refine fun_of_go (fun t=>false) mixed tOk Tryz.func302 rfl rfl ?_
  conv=>whnf
  refine call_data rfl rfl k1 ?_
  conv=>whnf
  refine ⟨?_,trivial⟩
  conv=>whnf
  try rfl
 |false=>
 cases z2 with
 |true=>
  refine fun_of_go (fun t=>false) mixed tOk Tryz.func302 rfl rfl ?_
  conv=>whnf
  refine call_data rfl rfl k1 ?_
  conv=>whnf
  refine call_data rfl rfl k2 ?_
  conv=>whnf
  refine ⟨?_,trivial⟩
  conv=>whnf
  try rfl
 |false=>
 cases z3 with
 |true=>
  refine fun_of_go (fun t=>false) mixed tOk Tryz.func302 rfl rfl ?_
  conv=>whnf
  refine call_data rfl rfl k1 ?_
  conv=>whnf
  refine call_data rfl rfl k2 ?_
  conv=>whnf
  refine call_data rfl rfl k3 ?_
  conv=>whnf
  refine ⟨?_,trivial⟩
  conv=>whnf
  try rfl
 |false=>
 cases z4 with
 |true=>
  refine fun_of_go (fun t=>false) mixed tOk Tryz.func302 rfl rfl ?_
  conv=>whnf
  refine call_data rfl rfl k1 ?_
  conv=>whnf
  refine call_data rfl rfl k2 ?_
  conv=>whnf
  refine call_data rfl rfl k3 ?_
  conv=>whnf
  refine call_data rfl rfl k4 ?_
  conv=>whnf
  refine ⟨?_,trivial⟩
  conv=>whnf
  try rfl
 |false=>
  refine fun_of_go (fun t=>false) mixed tOk Tryz.func302 rfl rfl ?_
  conv=>whnf
  refine call_data rfl rfl k1 ?_
  conv=>whnf
  refine call_data rfl rfl k2 ?_
  conv=>whnf
  refine call_data rfl rfl k3 ?_
  conv=>whnf
  refine call_data rfl rfl k4 ?_
  conv=>whnf
  refine callv_data (forient_c ha hb hc (by omega)) ?_
  conv=>whnf
  refine callv_data (forient_c ha hb hd (by omega)) ?_
  conv=>whnf
  refine sd_d (by omega) ?_
  conv=>whnf
  refine cond_d (fun c1=> ?_) (fun c1=> ?_)
  ·conv=>whnf
   refine callv_data (forient_c hc hd ha (by omega)) ?_
   conv=>whnf
   refine callv_data (forient_c hc hd hb (by omega)) ?_
   conv=>whnf
   refine sd_d (by omega) ?_
   conv=>whnf
   refine safe_intro (by kernel_rfl) ?_
   conv=>whnf
   refine ⟨?_,trivial⟩
   conv=>whnf
   rw [bz_eq,decide_eq_true c1]
   rfl
  ·conv=>whnf
   refine safe_intro (by kernel_rfl) ?_
   conv=>whnf
   refine ⟨?_,trivial⟩
   conv=>whnf
   rw [decide_eq_false c1]
   rfl
def stB(l:List P2)(i:Nat):Bool:=decide (orI (ix l i) (ix l (i+1)) (ix l (i+2))=0)
theorem fstraight_c{l:List P2}{n:Nat}(hl: ∀p∈l,BP n p)(hn:n<1000000)(hlen:l.length≤1000):Fun Tryz.prog 235 [.l (pL l)] [.v (.bool ((List.range l.length).any (stB l)))] :=by
 have hll:(pL l).length=l.length:=by simp
 refine fun_of_go (fun t=>false) mixed tOk Tryz.func235 rfl rfl ?_
 conv=>whnf
 refine loop_intro (fun t=>false) (fun i:Nat=>⟨fr 27 [(0,.d (.l (pL l))),(3,.d (i64 (pL l).length)),(4,.d (i64 i))], []⟩) (fun i=>i≤l.length∧ ∀j,j<i→stB l j=false) (fun i=>l.length-i) 0 mixed tOk ⟨by omega,fun j hj=>by omega⟩ ?_ ?_
 ·refine weak_r ?_ ?_<;>repeat' (first|exact trivial|exact rfl|apply And.intro)
 ·rintro i ⟨hi,hno⟩
  conv=>whnf
  refine cond_d (fun hlt=> ?_) (fun hge=> ?_)
  ·have hlt':i<l.length:=by omega
   have b0:=hl _ (ix_mem (l:=l) (k:=i) (by omega))
   have b1:=hl _ (ix_mem (l:=l) (k:=i+1) (by omega))
   have b2:=hl _ (ix_mem (l:=l) (k:=i+2) (by omega))
   have hmn:(i+1)%l.length<l.length:=Nat.mod_lt _ (by omega)
   have hnx:=fnextI_c hmn hlen
   have e2:ix l ((i+1)%l.length+1)=ix l (i+2):=by
    unfold ix
    rw [Nat.mod_add_mod]
   rw [e2] at hnx
   have e3:Int.tmod ((i:Int)+1) ((pL l).length:Int)=(((i+1)%l.length:Nat):Int):=by
    rw [pL_len,show ((i:Int)+1)=((i+1:Nat):Int) from rfl,tmod_nat]
   conv=>whnf
   refine idx_intro (pD (ix l i)) (ix_at hlt') (by omega) (pL_uni l) ?_
   conv=>whnf
   refine callv_data (fnextI_c hlt' hlen) ?_
   conv=>whnf
   refine sd_d (by omega) ?_
   conv=>whnf
   refine sd_d (by omega) ?_
   conv=>whnf
   rw [←e3] at hnx
   refine callv_data hnx ?_
   conv=>whnf
   refine callv_data (forient_c b0 b1 b2 (by omega)) ?_
   conv=>whnf
   refine safe_intro (by kernel_rfl) ?_
   conv=>whnf
   refine cond_e (fun c1=> ?_) (fun c1=> ?_)
   ·rw [show (List.range l.length).any (stB l)=true from List.any_eq_true.2 ⟨i,by simpa using hlt',by unfold stB;exact decide_eq_true c1⟩]
    conv=>whnf
    refine ⟨?_,trivial⟩
    conv=>whnf
   ·conv=>whnf
    refine sd_d (by omega) ?_
    conv=>whnf
    refine ⟨i+1,⟨by omega,fun j hj=> ?_⟩,by omega, ?_⟩
    ·by_cases e:j=i
     ·subst e;unfold stB;exact decide_eq_false c1
     ·exact hno j (by omega)
    ·rw [Int.natCast_succ]
     refine weak_r ?_ ?_<;>repeat' (first|exact trivial|exact rfl|apply And.intro)
  ·have hiE:i=l.length:=by omega
   rw [show (List.range l.length).any (stB l)=false by
    rw [List.any_eq_false];intro j hj;rw [hno j (by have:=List.mem_range.1 hj;omega)];decide]
   conv=>whnf
   refine ⟨?_,trivial⟩
   conv=>whnf
theorem fcanon_c{l:List (RD×RD)}(hl: ∀p∈l,SzP p)(hlen:l.length≤100000):Fun Tryz.prog 234 [.l (rL l)] [.v (.bool (l.all okR))] :=by
 have hll:(rL l).length=l.length:=by simp
 refine fun_of_go (fun t=>false) mixed tOk Tryz.func234 rfl rfl ?_
 conv=>whnf
 refine loop_intro (fun t=>false) (fun i:Nat=>⟨fr 16 [(0,.d (.l (rL l))),(3,.d (i64 i))], []⟩) (fun i=>i≤l.length∧ ∀j (h:j<l.length),j<i→okR l[j] =true) (fun i=>l.length-i) 0 mixed tOk ⟨by omega,fun j _ hj=>by omega⟩ ?_ ?_
 ·refine weak_r ?_ ?_<;>repeat' (first|exact trivial|exact rfl|apply And.intro)
 ·rintro i ⟨hi,hno⟩
  conv=>whnf
  refine cond_d (fun hlt=> ?_) (fun hge=> ?_)
  ·have hlt':i<l.length:=by omega
   have hs:=hl _ (List.getElem_mem hlt')
   conv=>whnf
   refine idx_intro (pR l[i]) (rL_get hlt') (by omega) (rL_uni l) ?_
   conv=>whnf
   refine call_data rfl rfl (rvcheck_c l[i].1 l[i].2 hs.1 hs.2) ?_
   conv=>whnf
   refine cond_ne (fun c1=> ?_) (fun c1=> ?_)
   ·rw [show l.all okR=false by
     rw [List.all_eq_false]
     exact ⟨l[i],List.getElem_mem hlt',by unfold okR;rw [decide_eq_false c1];decide⟩]
    conv=>whnf
    refine ⟨?_,trivial⟩
    conv=>whnf
   ·conv=>whnf
    refine sd_d (by omega) ?_
    conv=>whnf
    refine ⟨i+1,⟨by omega,fun j h hj=> ?_⟩,by omega, ?_⟩
    ·by_cases e:j=i
     ·subst e;unfold okR;exact decide_eq_true c1
     ·exact hno j h (by omega)
    ·rw [Int.natCast_succ]
     refine weak_r ?_ ?_<;>repeat' (first|exact trivial|exact rfl|apply And.intro)
  ·have hiE:i=l.length:=by omega
   rw [show l.all okR=true by
    rw [List.all_eq_true];intro p hp;obtain ⟨j,hj,rfl⟩:=List.getElem_of_mem hp;exact hno j hj (by omega)]
   conv=>whnf
   refine ⟨?_,trivial⟩
   conv=>whnf
end Go.Nv
end
