import Derived.Test.YtdjbkccoofcnjaaGreatNvD3
set_option linter.all false
set_option maxRecDepth 100000
section
namespace Go.Nv
open Go.Proofs Nw
theorem cmpI_pos{p q:Rat}:0<cmpI p q↔q<p:=by
 have:=cmpI_le (p:=p) (q:=q)
 constructor
 ·intro h
  have h1: ¬p≤q:=fun h2=>by have:=this.2 h2;omega
  grind
 ·intro h
  have h1: ¬cmpI p q≤0:=fun h2=>by have:=this.1 h2;grind
  omega
theorem bet_line{a b p:P2}(hab:a≠b)(ho:orQ a b p=0)(h1:leP a p)(h2:leP p b): ∃t:Rat,0≤t∧t≤1∧lin a b t=p:=by
 unfold leP at h1 h2
 simp only [orQ] at ho
 by_cases hx:a.1=b.1
 ·have hy:a.2≠b.2:=fun h=>hab (Prod.ext hx h)
  have hz:(b.2-a.2)*(p.1-a.1)=0:=by rw [hx] at ho ⊢;grind
  have hpx:p.1=a.1:=by
   rcases Rat.mul_eq_zero.1 hz with h|h
   ·exact absurd (by grind) hy
   ·grind
  have y1:a.2≤p.2:=by grind
  have y2:p.2≤b.2:=by grind
  obtain ⟨t0,t1⟩:=div_unit (x:=p.2-a.2) (y:=b.2-a.2) (by grind) (by grind) (by grind)
  refine ⟨_,t0,t1,Prod.ext ?_ ?_⟩
  ·simp only [lin];rw [hx,hpx];grind
  ·simp only [lin]
   have:b.2-a.2≠0:=by grind
   grind
 ·have x1:a.1≤p.1:=by grind
  have x2:p.1≤b.1:=by grind
  obtain ⟨t0,t1⟩:=div_unit (x:=p.1-a.1) (y:=b.1-a.1) (by grind) (by grind) (by grind)
  have hn:b.1-a.1≠0:=by grind
  refine ⟨_,t0,t1,Prod.ext ?_ ?_⟩
  ·simp only [lin];grind
  ·simp only [lin];grind
theorem cmP_zero{p q:P2}:cmP p q=0↔p=q:=by
 unfold cmP
 by_cases h:cmpI p.1 q.1=0
 ·rw [if_pos h,cmpI_zero]
  have:=cmpI_zero.1 h
  exact ⟨fun h2=>Prod.ext this h2,fun h2=>by rw [h2]⟩
 ·rw [if_neg h]
  exact ⟨fun h2=>absurd h2 h,fun h2=>absurd (cmpI_zero.2 (by rw [h2])) h⟩
theorem bet_on{a b p:P2}(hab:a≠b):betB a b p=true↔ ∃t:Rat,0≤t∧t≤1∧lin a b t=p:=by
 unfold betB
 rw [Bool.and_eq_true,Bool.and_eq_true,Bool.or_eq_true,decide_eq_true_eq,decide_eq_true_eq,decide_eq_true_eq,decide_eq_true_eq,orI_zero]
 constructor
 ·rintro ⟨ho,hp,_⟩
  rcases cmP_rng a p with h1|h1|h1<;>rcases cmP_rng p b with h2|h2|h2
  ·exact bet_line hab ho (cmP_le.1 (by omega)) (cmP_le.1 (by omega))
  ·exact ⟨1,by grind,by grind,by rw [lin_one];exact (cmP_zero.1 h2).symm⟩
  ·rw [h1,h2] at hp;exact absurd hp (by decide)
  ·exact ⟨0,by grind,by grind,by rw [lin_zero];exact cmP_zero.1 h1⟩
  ·exact ⟨0,by grind,by grind,by rw [lin_zero];exact cmP_zero.1 h1⟩
  ·exact ⟨0,by grind,by grind,by rw [lin_zero];exact cmP_zero.1 h1⟩
  ·rw [h1,h2] at hp;exact absurd hp (by decide)
  ·exact ⟨1,by grind,by grind,by rw [lin_one];exact (cmP_zero.1 h2).symm⟩
  ·have k1:leP p a:=leP_not fun h=>by have:=cmP_le.2 h;omega
   have k2:leP b p:=leP_not fun h=>by have:=cmP_le.2 h;omega
   obtain ⟨t,t0,t1,e⟩:=bet_line (a:=b) (b:=a) (fun h=>hab h.symm) (by simp only [orQ] at ho ⊢;grind) k2 k1
   exact ⟨1-t,by grind,by grind,by rw [←e];exact (lin_swap a b t).symm⟩
 ·rintro ⟨t,t0,t1,rfl⟩
  refine ⟨by simp only [orQ,lin];grind, ?_,.inl fun h=>hab (cmP_zero.1 h)⟩
  rcases leP_total a b with h|h
  ·obtain ⟨k1,k2⟩:=leP_lin h t0 t1
   have c1:=cmP_le.2 k1
   have c2:=cmP_le.2 k2
   rcases cmP_rng a (lin a b t) with h1|h1|h1<;>rcases cmP_rng (lin a b t) b with h2|h2|h2<;>rw [h1,h2] <;>first|decide|omega
  ·obtain ⟨k1,k2⟩:=leP_lin h (t:=1-t) (by grind) (by grind)
   rw [lin_swap] at k1 k2
   have e:(1:Rat)-(1-t)=t:=by grind
   rw [e] at k1 k2
   --a point not greater,and not less
   have g1:cmP a (lin a b t)=0∨0<cmP a (lin a b t):=by
    rcases cmP_rng a (lin a b t) with h1|h1|h1
    ·have:=cmP_le.1 (show cmP a (lin a b t)≤0 by omega)
     have:a=lin a b t:=by
      unfold leP at this k2
      generalize lin a b t=z at*
      exact Prod.ext (by grind) (by grind)
     exact .inl (cmP_zero.2 this)
    ·exact .inl h1
    ·exact .inr (by omega)
   have g2:cmP (lin a b t) b=0∨0<cmP (lin a b t) b:=by
    rcases cmP_rng (lin a b t) b with h1|h1|h1
    ·have:=cmP_le.1 (show cmP (lin a b t) b≤0 by omega)
     have:lin a b t=b:=by
      unfold leP at this k1
      generalize lin a b t=z at*
      exact Prod.ext (by grind) (by grind)
     exact .inl (cmP_zero.2 this)
    ·exact .inl h1
    ·exact .inr (by omega)
   rcases g1 with g1|g1
   ·rw [g1];omega
   ·rcases g2 with g2|g2
    ·rw [g2];omega
    ·exact Int.mul_nonneg (by omega) (by omega)
def gtH(h:List (RD×RD)):Bool:=decide (6<h.length)||h.any gtP
@[irreducible] def g11(o:List (RD×RD))(hs:List (List (RD×RD))):Bool:=
 decide ((10<o.length∧o.length≤64)∨67<o.length)||(o.any gtP||((hs.take 11).any gtH||decide ((3<hs.length∧hs.length≤8)∨10<hs.length)))
theorem great11_c(o:List (RD×RD))(hs:List (List (RD×RD))):Fun Tryz.prog 102 [pgR o hs] [.v (.bool (g11 o hs))] :=by
 have hlo:(rL o).length=o.length:=by simp
 have hlh:(hR hs).length=hs.length:=by simp
 have t1:((10<o.length∧o.length≤64)∨67<o.length)→g11 o hs=true:=fun h=>by unfold g11;rw [decide_eq_true h];rfl
 have t2:o.any gtP=true→g11 o hs=true:=fun h=>by unfold g11;rw [h];simp
 have t3:(hs.take 11).any gtH=true→g11 o hs=true:=fun h=>by unfold g11;rw [h];simp
 refine fun_of_go (fun t=>false) mixed tOk Tryz.func102 rfl rfl ?_
 conv=>whnf
 refine cond_d (fun c1=> ?_) (fun c1=> ?_)
 ·conv=>whnf
  refine cond_d (fun c2=> ?_) (fun c2=> ?_)
  ·rw [t1 (.inl (by omega))]
   conv=>whnf
   exact ⟨rfl,trivial⟩
  ·conv=>whnf
   refine cond_d (fun c3=> ?_) (fun c3=> ?_)
   ·rw [t1 (.inr (by omega))]
    conv=>whnf
    exact ⟨rfl,trivial⟩
   ·have Y0: ¬((10<o.length∧o.length≤64)∨67<o.length):=by omega
    conv=>whnf
    refine call_data rfl rfl (great7 o (by omega)) ?_
    conv=>whnf
    refine cond_intro (fun c2=> ?_) (fun c2=> ?_)
    ·rw [t2 c2]
     conv=>whnf
     exact ⟨rfl,trivial⟩
    ·have Z: ¬((10<o.length∧o.length≤64)∨67<o.length)∧o.any gtP=false:=⟨Y0,c2⟩
     conv=>whnf
     refine loop_intro (fun t=>false) (fun i:Nat=>⟨fr 65 [(1,.d (.p 0 [.l (rL o),.l (hR hs)])),(4,.d (i64 i))], []⟩) (fun i=>i≤hs.length∧i≤11∧(hs.take i).any gtH=false) (fun i=>hs.length-i) 0 mixed tOk ⟨by omega,by omega,rfl⟩ ?_ ?_
     ·refine weak_r ?_ ?_<;>repeat' (first|exact trivial|exact rfl|apply And.intro)
     ·rintro i ⟨hi,hi2,hno⟩
      have fin:(hs.length≤i∨11≤i)→(hs.take 11).any gtH=false:=fun h=>by
       rcases h with h|h
       ·have:i=hs.length:=by omega
        subst this
        rw [List.take_length] at hno
        rw [List.any_eq_false] at hno ⊢
        exact fun x hx=>hno x (List.mem_of_mem_take hx)
       ·have:i=11:=by omega
        subst this;exact hno
      conv=>whnf
      refine cond_d (fun hlt=> ?_) (fun hge=> ?_)
      ·have hlt':i<hs.length:=by omega
       conv=>whnf
       refine cond_d (fun h11=> ?_) (fun h11=> ?_)
       ·have tk:(hs.take (i+1)).any gtH=((hs.take i).any gtH||gtH hs[i]):=by rw [List.take_succ_eq_append_getElem hlt',List.any_append];simp
        have hin:gtH hs[i] =true→(hs.take 11).any gtH=true:=fun h=>List.any_eq_true.2 ⟨hs[i],List.mem_take_iff_getElem.2 ⟨i,by omega,rfl⟩,h⟩
        have hll:(rL hs[i]).length=hs[i].length:=List.length_map ..
        have hget:=hR_get hlt'
        generalize hs[i] =h at*
        conv=>whnf
        refine idx_intro (.l (rL h)) hget (by omega) (hR_uni _) ?_
        conv=>whnf
        refine cond_d (fun d1=> ?_) (fun d1=> ?_)
        ·rw [t3 (hin (by unfold gtH;rw [decide_eq_true (by omega)];rfl))]
         conv=>whnf
         exact ⟨rfl,trivial⟩
        ·conv=>whnf
         refine idx_intro (.l (rL h)) hget (by omega) (hR_uni _) ?_
         conv=>whnf
         refine call_data rfl rfl (great7 h (by omega)) ?_
         conv=>whnf
         refine cond_intro (fun d2=> ?_) (fun d2=> ?_)
         ·rw [t3 (hin (by unfold gtH;rw [d2];simp))]
          conv=>whnf
          exact ⟨rfl,trivial⟩
         ·conv=>whnf
          refine sd_d (by omega) ?_
          conv=>whnf
          refine ⟨i+1,⟨by omega,by omega, ?_⟩,by omega, ?_⟩
          ·rw [tk,hno];unfold gtH;rw [d2,decide_eq_false (by omega)];rfl
          rw [Int.natCast_succ]
          refine weak_r ?_ ?_<;>repeat' (first|exact trivial|exact rfl|apply And.intro)
       ·have e:g11 o hs=decide ((3<hs.length∧hs.length≤8)∨10<hs.length):=by
         unfold g11;rw [decide_eq_false Z.1,Z.2,fin (.inr (by omega))];rfl
        rw [e]
        conv=>whnf
        refine cond_d (fun d1=> ?_) (fun d1=> ?_)
        ·conv=>whnf
         refine cond_d (fun d2=> ?_) (fun d2=> ?_)
         ·conv=>whnf
          refine ⟨?_,trivial⟩
          conv=>whnf
          rw [decide_eq_true (by omega)]
         ·conv=>whnf
          refine ⟨?_,trivial⟩
          conv=>whnf
          rw [bz_eq,decide_eq_decide];omega
        ·conv=>whnf
         refine ⟨?_,trivial⟩
         conv=>whnf
         rw [bz_eq,decide_eq_decide];omega
      ·have e:g11 o hs=decide ((3<hs.length∧hs.length≤8)∨10<hs.length):=by
        unfold g11;rw [decide_eq_false Z.1,Z.2,fin (.inl (by omega))];rfl
       rw [e]
       conv=>whnf
       refine cond_d (fun d1=> ?_) (fun d1=> ?_)
       ·conv=>whnf
        refine cond_d (fun d2=> ?_) (fun d2=> ?_)
        ·conv=>whnf
         refine ⟨?_,trivial⟩
         conv=>whnf
         rw [decide_eq_true (by omega)]
        ·conv=>whnf
         refine ⟨?_,trivial⟩
         conv=>whnf
         rw [bz_eq,decide_eq_decide];omega
       ·conv=>whnf
        refine ⟨?_,trivial⟩
        conv=>whnf
        rw [bz_eq,decide_eq_decide];omega
 ·conv=>whnf
  refine cond_d (fun c3=> ?_) (fun c3=> ?_)
  ·rw [t1 (.inr (by omega))]
   conv=>whnf
   exact ⟨rfl,trivial⟩
  ·have Y0: ¬((10<o.length∧o.length≤64)∨67<o.length):=by omega
   conv=>whnf
   refine call_data rfl rfl (great7 o (by omega)) ?_
   conv=>whnf
   refine cond_intro (fun c2=> ?_) (fun c2=> ?_)
   ·rw [t2 c2]
    conv=>whnf
    exact ⟨rfl,trivial⟩
   ·have Z: ¬((10<o.length∧o.length≤64)∨67<o.length)∧o.any gtP=false:=⟨Y0,c2⟩
    conv=>whnf
    refine loop_intro (fun t=>false) (fun i:Nat=>⟨fr 65 [(1,.d (.p 0 [.l (rL o),.l (hR hs)])),(4,.d (i64 i))], []⟩) (fun i=>i≤hs.length∧i≤11∧(hs.take i).any gtH=false) (fun i=>hs.length-i) 0 mixed tOk ⟨by omega,by omega,rfl⟩ ?_ ?_
    ·refine weak_r ?_ ?_<;>repeat' (first|exact trivial|exact rfl|apply And.intro)
    ·rintro i ⟨hi,hi2,hno⟩
     have fin:(hs.length≤i∨11≤i)→(hs.take 11).any gtH=false:=fun h=>by
      rcases h with h|h
      ·have:i=hs.length:=by omega
       subst this
       rw [List.take_length] at hno
       rw [List.any_eq_false] at hno ⊢
       exact fun x hx=>hno x (List.mem_of_mem_take hx)
      ·have:i=11:=by omega
       subst this;exact hno
     conv=>whnf
     refine cond_d (fun hlt=> ?_) (fun hge=> ?_)
     ·have hlt':i<hs.length:=by omega
      conv=>whnf
      refine cond_d (fun h11=> ?_) (fun h11=> ?_)
      ·have tk:(hs.take (i+1)).any gtH=((hs.take i).any gtH||gtH hs[i]):=by rw [List.take_succ_eq_append_getElem hlt',List.any_append];simp
       have hin:gtH hs[i] =true→(hs.take 11).any gtH=true:=fun h=>List.any_eq_true.2 ⟨hs[i],List.mem_take_iff_getElem.2 ⟨i,by omega,rfl⟩,h⟩
       have hll:(rL hs[i]).length=hs[i].length:=List.length_map ..
       have hget:=hR_get hlt'
       generalize hs[i] =h at*
       conv=>whnf
       refine idx_intro (.l (rL h)) hget (by omega) (hR_uni _) ?_
       conv=>whnf
       refine cond_d (fun d1=> ?_) (fun d1=> ?_)
       ·rw [t3 (hin (by unfold gtH;rw [decide_eq_true (by omega)];rfl))]
        conv=>whnf
        exact ⟨rfl,trivial⟩
       ·conv=>whnf
        refine idx_intro (.l (rL h)) hget (by omega) (hR_uni _) ?_
        conv=>whnf
        refine call_data rfl rfl (great7 h (by omega)) ?_
        conv=>whnf
        refine cond_intro (fun d2=> ?_) (fun d2=> ?_)
        ·rw [t3 (hin (by unfold gtH;rw [d2];simp))]
         conv=>whnf
         exact ⟨rfl,trivial⟩
        ·conv=>whnf
         refine sd_d (by omega) ?_
         conv=>whnf
         refine ⟨i+1,⟨by omega,by omega, ?_⟩,by omega, ?_⟩
         ·rw [tk,hno];unfold gtH;rw [d2,decide_eq_false (by omega)];rfl
         rw [Int.natCast_succ]
         refine weak_r ?_ ?_<;>repeat' (first|exact trivial|exact rfl|apply And.intro)
      ·have e:g11 o hs=decide ((3<hs.length∧hs.length≤8)∨10<hs.length):=by
        unfold g11;rw [decide_eq_false Z.1,Z.2,fin (.inr (by omega))];rfl
       rw [e]
       conv=>whnf
       refine cond_d (fun d1=> ?_) (fun d1=> ?_)
       ·conv=>whnf
        refine cond_d (fun d2=> ?_) (fun d2=> ?_)
        ·conv=>whnf
         refine ⟨?_,trivial⟩
         conv=>whnf
         rw [decide_eq_true (by omega)]
        ·conv=>whnf
         refine ⟨?_,trivial⟩
         conv=>whnf
         rw [bz_eq,decide_eq_decide];omega
       ·conv=>whnf
        refine ⟨?_,trivial⟩
        conv=>whnf
        rw [bz_eq,decide_eq_decide];omega
     ·have e:g11 o hs=decide ((3<hs.length∧hs.length≤8)∨10<hs.length):=by
       unfold g11;rw [decide_eq_false Z.1,Z.2,fin (.inl (by omega))];rfl
      rw [e]
      conv=>whnf
      refine cond_d (fun d1=> ?_) (fun d1=> ?_)
      ·conv=>whnf
       refine cond_d (fun d2=> ?_) (fun d2=> ?_)
       ·conv=>whnf
        refine ⟨?_,trivial⟩
        conv=>whnf
        rw [decide_eq_true (by omega)]
       ·conv=>whnf
        refine ⟨?_,trivial⟩
        conv=>whnf
        rw [bz_eq,decide_eq_decide];omega
      ·conv=>whnf
       refine ⟨?_,trivial⟩
       conv=>whnf
       rw [bz_eq,decide_eq_decide];omega
theorem any_take{α:Type}{g:α→Bool}{l:List α}{n:Nat}(h:(l.take n).any g=false)(hn:l.length≤n): ∀x∈l,g x=false:=by
 rw [List.take_of_length_le hn,List.any_eq_false] at h
 intro x hx
 have:=h x hx
 simpa using this
structure G11 (o:List (RD×RD)) (hs:List (List (RD×RD))):Prop where
 lo:o.length≤67
 lh:hs.length≤10
 ob: ∀p∈o,gtP p=false
 hb: ∀h∈hs,∀p∈h,gtP p=false
 hl: ∀h∈hs,h.length≤6
theorem g11_f{o:List (RD×RD)}{hs:List (List (RD×RD))}(h:g11 o hs=false):G11 o hs:=by
 unfold g11 at h
 rw [Bool.or_eq_false_iff,Bool.or_eq_false_iff,Bool.or_eq_false_iff,decide_eq_false_iff_not,decide_eq_false_iff_not] at h
 obtain ⟨h1,h2,h3,h4⟩:=h
 have h5:=any_take h3 (by omega)
 refine ⟨by omega,by omega,fun p hp=> ?_,fun x hx p hp=> ?_,fun x hx=> ?_⟩
 ·rw [List.any_eq_false] at h2;have:=h2 p hp;simpa using this
 ·have:=h5 x hx
  unfold gtH at this
  rw [Bool.or_eq_false_iff,List.any_eq_false] at this
  have:=this.2 p hp;simpa using this
 ·have:=h5 x hx
  unfold gtH at this
  rw [Bool.or_eq_false_iff,decide_eq_false_iff_not] at this
  omega
def nPt(o:List (RD×RD))(hs:List (List (RD×RD))):Nat:=o.length+(hs.map List.length).sum
theorem nPt_take{o:List (RD×RD)}{hs:List (List (RD×RD))}{i:Nat}(h:i<hs.length):nPt o (hs.take (i+1))=nPt o (hs.take i)+hs[i].length:=by
 unfold nPt;rw [List.take_succ_eq_append_getElem h,List.map_append,List.sum_append];simp;omega
theorem nPt_le{o:List (RD×RD)}{hs:List (List (RD×RD))}(hl: ∀h∈hs,h.length≤6): ∀i,i≤hs.length→nPt o (hs.take i)≤o.length+6*i
 |0,_=>by simp [nPt]
 |i+1,h=>by
  rw [nPt_take h]
  have:=nPt_le (o:=o) hl i (by omega)
  have:=hl _ (List.getElem_mem h)
  omega
@[irreducible] def g22(o:List (RD×RD))(hs:List (List (RD×RD))):Bool:=g11 o hs||decide (12<nPt o hs∧o.length≤64∧hs.length≤8)
theorem great22_c(o:List (RD×RD))(hs:List (List (RD×RD))):Fun Tryz.prog 38 [pgR o hs] [.v (.bool (g22 o hs))] :=by
 have hlo:(rL o).length=o.length:=by simp
 have hlh:(hR hs).length=hs.length:=by simp
 refine fun_of_go (fun t=>false) mixed tOk Tryz.func38 rfl rfl ?_
 conv=>whnf
 refine call_data rfl rfl (great11_c o hs) ?_
 conv=>whnf
 refine cond_intro (fun c1=> ?_) (fun c1=> ?_)
 ·rw [show g22 o hs=true by unfold g22;rw [c1];rfl]
  conv=>whnf
  exact ⟨rfl,trivial⟩
 have hG:=g11_f c1
 have e0:g22 o hs=decide (12<nPt o hs∧o.length≤64∧hs.length≤8):=by unfold g22;rw [c1];rfl
 rw [e0]
 conv=>whnf
 refine loop_intro (fun t=>false) (fun i:Nat=>⟨fr 39 [(1,.d (.p 0 [.l (rL o),.l (hR hs)])),(3,.d (i64 (nPt o (hs.take i)))),(4,.d (i64 i))], []⟩) (fun i=>i≤hs.length) (fun i=>hs.length-i) 0 mixed tOk (by omega) ?_ ?_
 ·have e:nPt o (hs.take 0)=(rL o).length:=by simp [nPt]
  rw [e]
  refine weak_r ?_ ?_<;>repeat' (first|exact trivial|exact rfl|apply And.intro)
 ·intro i hi
  have hle:=nPt_le (o:=o) hG.hl i hi
  have hGl:=hG.lh
  have hGo:=hG.lo
  conv=>whnf
  refine cond_d (fun hlt=> ?_) (fun hge=> ?_)
  ·have hlt':i<hs.length:=by omega
   have hi6:=hG.hl _ (List.getElem_mem hlt')
   have hst:=nPt_take (o:=o) hlt'
   have hget:=hR_get hlt'
   have hll:(rL hs[i]).length=hs[i].length:=List.length_map ..
   generalize hs[i] =h at*
   conv=>whnf
   refine idx_intro (.l (rL h)) hget (by omega) (hR_uni _) ?_
   conv=>whnf
   refine sd_d (by omega) ?_
   conv=>whnf
   refine sd_d (by omega) ?_
   conv=>whnf
   refine ⟨i+1,by omega,by omega, ?_⟩
   rw [hst,Int.natCast_succ,Int.natCast_add, ←hll]
   refine weak_r ?_ ?_<;>repeat' (first|exact trivial|exact rfl|apply And.intro)
  ·have:i=hs.length:=by omega
   subst this
   rw [List.take_length] at hle ⊢
   conv=>whnf
   refine cond_d (fun d1=> ?_) (fun d1=> ?_)
   ·conv=>whnf
    refine cond_d (fun d2=> ?_) (fun d2=> ?_)
    ·conv=>whnf
     refine ⟨?_,trivial⟩
     conv=>whnf
     rw [bz_eq,decide_eq_decide];omega
    ·conv=>whnf
     refine ⟨?_,trivial⟩
     conv=>whnf
     rw [decide_eq_false (by omega)]
   ·conv=>whnf
    refine ⟨?_,trivial⟩
    conv=>whnf
    rw [decide_eq_false (by omega)]
theorem qL_get{l:List Rat}{i:Nat}(h:i<l.length):(qL l)[(i:Int).toNat]? =some (ratD l[i]):=by simp [h]
theorem eqDs_rat(p q:Rat):eqDs [.v (.bool (rneg p)),.v (.string (rnum p)),.v (.string (rden p))] [.v (.bool (rneg q)),.v (.string (rnum q)),.v (.string (rden q))] =decide (p=q):=by
 unfold rneg rnum rden
 rw [eqDs_rd,decide_eq_decide]
 constructor
 ·intro h;have h3:=congrArg RD.val h;rw [val_canon,val_canon] at h3;exact h3
 ·rintro rfl;rfl
end Go.Nv
end
