import Derived.Test.YtdjbkccoofcnjaaGreatNvC8
import Derived.Test.YtdjbkccoofcnjaaGreatNvP1
import Derived.Test.YtdjbkccoofcnjaaGreatNvN6
set_option linter.all false
set_option maxRecDepth 100000
section
namespace Go.Nv
open Go.Proofs Nw
theorem cross_c{x y u v:Rat}{n:Nat}(hx:Bd n x)(hy:Bd n y)(hu:Bd n u)(hv:Bd n v)(hn:n<10000000000):Fun Tryz.prog 186 [ptD x y,ptD u v] [ratD (x*v-y*u)] :=by
 refine fun_of_go (fun t=>t==4||t==5) mixed tOk Tryz.func186 rfl rfl ?_
 conv=>whnf
 refine call_data rfl rfl (each_c (mul_q (.mk hx (by omega)) (.mk hv (by omega))) (mul_q (.mk hy (by omega)) (.mk hu (by omega)))) ?_
 conv=>whnf
 refine call_data rfl rfl (sub_q (.mk (hx.mul hv) (by omega)) (.mk (hy.mul hu) (by omega))) ?_
 conv=>whnf
 refine ⟨?_,trivial⟩
 conv=>whnf
 exact ⟨rfl,rfl,rfl,trivial⟩
@[irreducible] def orI(a b c:P2):Int:=sgnI (orQ a b c)
theorem orient_c{x y u v z w:Rat}{n:Nat}(hx:Bd n x)(hy:Bd n y)(hu:Bd n u)(hv:Bd n v)(hz:Bd n z)(hw:Bd n w)(hn:n<1000000000):
  Fun Tryz.prog 220 [ptD x y,ptD u v,ptD z w] [i64 (orI (x,y) (u,v) (z,w))] :=by
 have e:orI (x,y) (u,v) (z,w)=sgnI ((u-x)*(w-y)-(v-y)*(z-x)):=by unfold orI orQ;rfl
 rw [e]
 refine fun_of_go (fun t=>false) mixed tOk Tryz.func220 rfl rfl ?_
 conv=>whnf
 refine callv_data (vsub_c (.mk hu (by omega)) (.mk hv (by omega)) (.mk hx (by omega)) (.mk hy (by omega))) ?_
 conv=>whnf
 refine callv_data (vsub_c (.mk hz (by omega)) (.mk hw (by omega)) (.mk hx (by omega)) (.mk hy (by omega))) ?_
 conv=>whnf
 refine callv_data (cross_c (hu.sub hx) (hv.sub hy) (hz.sub hx) (hw.sub hy) (by omega)) ?_
 conv=>whnf
 refine callv_data (sign_q (.mk (((hu.sub hx).mul (hw.sub hy)).sub ((hv.sub hy).mul (hz.sub hx))) (by omega))) ?_
 conv=>whnf
 refine safe_intro (by kernel_rfl) ?_
 conv=>whnf
 refine ⟨?_,trivial⟩
 conv=>whnf
@[irreducible] def cmP(p q:P2):Int:=if cmpI p.1 q.1=0 then cmpI p.2 q.2 else cmpI p.1 q.1
theorem vcmp_c{x y u v:Rat}(hx:Q x)(hy:Q y)(hu:Q u)(hv:Q v):Fun Tryz.prog 155 [ptD x y,ptD u v] [i64 (cmP (x,y) (u,v))] :=by
 have:=vcompare_c hx hy hu hv
 unfold cmP;exact this
theorem ptD00:ptD 0 0= .a [.v (.bool false),.v (.string emp),.v (.string emp),.v (.bool false),.v (.string emp),.v (.string emp)] :=by
 unfold ptD;rw [rneg_zero,rnum_zero,rden_zero]
theorem Q.add0{p:Rat}:p+0=p:=by grind
theorem scanon_c{x y:Rat}(hx:Q x)(hy:Q y):Fun Tryz.prog 335 [ptD x y] [ptD x y] :=by
 have h0:Q 0:= .mk (bd_int 0 (n:=0) (by simp)) (by omega)
 have h:=vadd_c hx hy h0 h0
 rw [Q.add0,Q.add0] at h
 refine fun_of_go (fun t=>t==2) mixed tOk Tryz.func335 rfl rfl ?_
 conv=>whnf
 refine call_eq rfl rfl h ?_ ?_
 ·rw [ptD00];rfl
 ·conv=>whnf
  refine ⟨?_,trivial⟩
  conv=>whnf
  exact ⟨rfl,rfl,rfl,rfl,rfl,rfl,trivial⟩
theorem cmpI_rng(p q:Rat):cmpI p q= -1∨cmpI p q=0∨cmpI p q=1:=by
 rw [cmpI_eq];unfold cmpQ;split
 ·exact .inl rfl
 ·split
  ·exact .inr (.inr rfl)
  ·exact .inr (.inl rfl)
theorem cmP_rng(p q:P2):cmP p q= -1∨cmP p q=0∨cmP p q=1:=by
 unfold cmP;split<;>exact cmpI_rng _ _
@[irreducible] def betB(a b p:P2):Bool:=decide (orI a b p=0)&&(decide (0≤cmP a p*cmP p b)&&(decide (cmP a b≠0)||decide (cmP a p=0)))
theorem between_c{x y u v z w:Rat}{n:Nat}(hx:Bd n x)(hy:Bd n y)(hu:Bd n u)(hv:Bd n v)(hz:Bd n z)(hw:Bd n w)(hn:n<1000000000):
  Fun Tryz.prog 286 [ptD x y,ptD u v,ptD z w] [.v (.bool (betB (x,y) (u,v) (z,w)))] :=by
 have qx:Q x:= .mk hx (by omega)
 have qy:Q y:= .mk hy (by omega)
 have qu:Q u:= .mk hu (by omega)
 have qv:Q v:= .mk hv (by omega)
 have qz:Q z:= .mk hz (by omega)
 have qw:Q w:= .mk hw (by omega)
 have r1:=cmP_rng (x,y) (z,w)
 have r2:=cmP_rng (z,w) (u,v)
 have hm:cmP (x,y) (z,w)*cmP (z,w) (u,v)≤1∧ -1≤cmP (x,y) (z,w)*cmP (z,w) (u,v):=by
  rcases r1 with h|h|h<;>rcases r2 with h'|h'|h'<;>rw [h,h'] <;>decide
 refine fun_of_go (fun t=>false) mixed tOk Tryz.func286 rfl rfl ?_
 conv=>whnf
 refine call_data rfl rfl (orient_c hx hy hu hv hz hw hn) ?_
 conv=>whnf
 refine cond_ne (fun h=> ?_) (fun h=> ?_)
 ·conv=>whnf
  refine ⟨?_,trivial⟩
  conv=>whnf
  unfold betB;rw [decide_eq_false h];rfl
 ·conv=>whnf
  refine callv_data (vcmp_c qx qy qz qw) ?_
  conv=>whnf
  refine callv_data (vcmp_c qz qw qu qv) ?_
  conv=>whnf
  refine sd_d (by omega) ?_
  conv=>whnf
  refine cond_d (fun h1=> ?_) (fun h1=> ?_)
  ·conv=>whnf
   refine callv_data (vcmp_c qx qy qu qv) ?_
   refine cond_ne (fun h2=> ?_) (fun h2=> ?_)
   ·conv=>whnf
    refine safe_intro (by kernel_rfl) ?_
    conv=>whnf
    refine ⟨?_,trivial⟩
    conv=>whnf
    unfold betB;rw [decide_eq_true h,decide_eq_true h1,decide_eq_true h2];rfl
   ·conv=>whnf
    refine callv_data (vcmp_c qx qy qz qw) ?_
    conv=>whnf
    refine safe_intro (by kernel_rfl) ?_
    conv=>whnf
    refine ⟨?_,trivial⟩
    conv=>whnf
    rw [bz_eq]
    unfold betB;rw [decide_eq_true h,decide_eq_true h1,decide_eq_false (fun hh=>hh h2)];rfl
  ·conv=>whnf
   refine safe_intro (by kernel_rfl) ?_
   conv=>whnf
   refine ⟨?_,trivial⟩
   conv=>whnf
   unfold betB;rw [decide_eq_true h,decide_eq_false h1];rfl
theorem dir_c{x y u v:Rat}(hx:Q x)(hy:Q y)(hu:Q u)(hv:Q v):Fun Tryz.prog 351 [quD x y u v] [ptD (u-x) (v-y)] :=by
 refine fun_of_go (fun t=>t==2) mixed tOk Tryz.func351 rfl rfl ?_
 conv=>whnf
 refine call_data rfl rfl (vsub_c hu hv hx hy) ?_
 conv=>whnf
 refine ⟨?_,trivial⟩
 conv=>whnf
 exact ⟨rfl,rfl,rfl,rfl,rfl,rfl,trivial⟩
@[irreducible] def unB(t:Rat):Bool:=decide (0≤sgnI t)&&decide (cmpI t 1≤0)
theorem unit_c{t:Rat}(ht:Q t):Fun Tryz.prog 352 [ratD t] [.v (.bool (unB t))] :=by
 have h11:=of_r 1 (by omega)
 rw [Rat.intCast_one] at h11
 refine fun_of_go (fun t=>false) mixed tOk Tryz.func352 rfl rfl ?_
 conv=>whnf
 refine callv_data (sign_q ht) ?_
 refine cond_d (fun h1=> ?_) (fun h1=> ?_)
 ·conv=>whnf
  refine callv_data h11 ?_
  conv=>whnf
  refine callv_data (cmp_q ht (.mk (bd_int 1 (n:=0) (by simp)) (by omega))) ?_
  conv=>whnf
  refine safe_intro (by kernel_rfl) ?_
  conv=>whnf
  refine ⟨?_,trivial⟩
  conv=>whnf
  rw [bz_eq]
  unfold unB;rw [decide_eq_true h1];rfl
 ·conv=>whnf
  refine safe_intro (by kernel_rfl) ?_
  conv=>whnf
  refine ⟨?_,trivial⟩
  conv=>whnf
  unfold unB;rw [decide_eq_false h1];rfl
abbrev pD(p:P2):D:=ptD p.1 p.2
def QP(p:P2):Prop:=Q p.1∧Q p.2
def gtrP(p q:P2):P2:=if cmP p q<0 then q else p
def lsrP(p q:P2):P2:=if cmP p q<0 then p else q
theorem greater_c{p q:P2}(hp:QP p)(hq:QP q):Fun Tryz.prog 353 [pD p,pD q] [pD (gtrP p q)] :=by
 obtain ⟨x,y⟩:=p
 obtain ⟨u,v⟩:=q
 refine fun_of_go (fun t=>t==4) mixed tOk Tryz.func353 rfl rfl ?_
 conv=>whnf
 refine call_data rfl rfl (vcmp_c hp.1 hp.2 hq.1 hq.2) ?_
 conv=>whnf
 refine cond_d (fun h1=> ?_) (fun h1=> ?_)
 ·rw [show gtrP (x,y) (u,v)=(u,v) by unfold gtrP;rw [if_pos h1]]
  conv=>whnf
  refine ⟨?_,trivial⟩
  conv=>whnf
  exact ⟨rfl,rfl,rfl,rfl,rfl,rfl,trivial⟩
 ·rw [show gtrP (x,y) (u,v)=(x,y) by unfold gtrP;rw [if_neg h1]]
  conv=>whnf
  refine ⟨?_,trivial⟩
  conv=>whnf
  exact ⟨rfl,rfl,rfl,rfl,rfl,rfl,trivial⟩
theorem lesser_c{p q:P2}(hp:QP p)(hq:QP q):Fun Tryz.prog 354 [pD p,pD q] [pD (lsrP p q)] :=by
 obtain ⟨x,y⟩:=p
 obtain ⟨u,v⟩:=q
 refine fun_of_go (fun t=>t==4) mixed tOk Tryz.func354 rfl rfl ?_
 conv=>whnf
 refine call_data rfl rfl (vcmp_c hp.1 hp.2 hq.1 hq.2) ?_
 conv=>whnf
 refine cond_d (fun h1=> ?_) (fun h1=> ?_)
 ·rw [show lsrP (x,y) (u,v)=(x,y) by unfold lsrP;rw [if_pos h1]]
  conv=>whnf
  refine ⟨?_,trivial⟩
  conv=>whnf
  exact ⟨rfl,rfl,rfl,rfl,rfl,rfl,trivial⟩
 ·rw [show lsrP (x,y) (u,v)=(u,v) by unfold lsrP;rw [if_neg h1]]
  conv=>whnf
  refine ⟨?_,trivial⟩
  conv=>whnf
  exact ⟨rfl,rfl,rfl,rfl,rfl,rfl,trivial⟩
abbrev sD(a b:P2):D:=quD a.1 a.2 b.1 b.2
def ordP(a b:P2):P2×P2:=if 0<cmP a b then (b,a) else (a,b)
theorem order_c{a b:P2}(ha:QP a)(hb:QP b):Fun Tryz.prog 288 [sD a b] [sD (ordP a b).1 (ordP a b).2] :=by
 obtain ⟨x,y⟩:=a
 obtain ⟨u,v⟩:=b
 refine fun_of_go (fun t=>t==2||t==3||t==4) mixed tOk Tryz.func288 rfl rfl ?_
 conv=>whnf
 refine callv_data (scanon_c ha.1 ha.2) ?_
 conv=>whnf
 refine callv_data (scanon_c hb.1 hb.2) ?_
 conv=>whnf
 refine safe_intro (by kernel_rfl) ?_
 conv=>whnf
 refine call_data rfl rfl (vcmp_c ha.1 ha.2 hb.1 hb.2) ?_
 conv=>whnf
 refine cond_d (fun h1=> ?_) (fun h1=> ?_)
 ·rw [show ordP (x,y) (u,v)=((u,v),(x,y)) by unfold ordP;rw [if_pos h1]]
  conv=>whnf
  refine ⟨?_,trivial⟩
  conv=>whnf
  exact ⟨rfl,rfl,rfl,rfl,rfl,rfl,rfl,rfl,rfl,rfl,rfl,rfl,trivial⟩
 ·rw [show ordP (x,y) (u,v)=((x,y),(u,v)) by unfold ordP;rw [if_neg h1]]
  conv=>whnf
  refine ⟨?_,trivial⟩
  conv=>whnf
  exact ⟨rfl,rfl,rfl,rfl,rfl,rfl,rfl,rfl,rfl,rfl,rfl,rfl,trivial⟩
theorem wrong_c{x y u v x' y' u' v':Rat}(h1:Q x)(h2:Q y)(h3:Q u)(h4:Q v)(k1:Q x')(k2:Q y')(k3:Q u')(k4:Q v'):
  Fun Tryz.prog 333 [quD x y u v,quD x' y' u' v'] [.v (.bool (decide (x=u∧y=v)||decide (x'=u'∧y'=v')))] :=by
 refine fun_of_go (fun t=>false) mixed tOk Tryz.func333 rfl rfl ?_
 conv=>whnf
 refine call_data rfl rfl (scheck_c h1 h2 h3 h4) ?_
 conv=>whnf
 refine cond_ne (fun h=> ?_) (fun h=> ?_)
 ·conv=>whnf
  refine ⟨?_,trivial⟩
  conv=>whnf
  have:x=u∧y=v:=by
   by_cases hh:x=u∧y=v
   ·exact hh
   ·exact absurd (by unfold sgE;rw [if_neg hh]) h
  rw [decide_eq_true this];rfl
 ·conv=>whnf
  refine call_data rfl rfl (scheck_c k1 k2 k3 k4) ?_
  conv=>whnf
  refine ⟨?_,trivial⟩
  conv=>whnf
  rw [bz_eq]
  have e1: ¬(x=u∧y=v):=fun hh=>by unfold sgE at h;rw [if_pos hh] at h;exact absurd h (by decide)
  rw [decide_eq_false e1]
  unfold sgE
  by_cases hh:x'=u'∧y'=v'
  ·rw [if_pos hh,decide_eq_true hh];rfl
  ·rw [if_neg hh,decide_eq_false hh];rfl
def su(p q:P2):P2:=(p.1-q.1,p.2-q.2)
def crQ(p q:P2):Rat:=p.1*q.2-p.2*q.1
@[irreducible] def mtQ(a b c d:P2):Option (P2×P2):=
 if crQ (su b a) (su d c)=0 then
  (if crQ (su b a) (su c a)=0 then
   (if 0<cmP (gtrP (ordP a b).1 (ordP c d).1) (lsrP (ordP a b).2 (ordP c d).2) then none else some (gtrP (ordP a b).1 (ordP c d).1,lsrP (ordP a b).2 (ordP c d).2))
  else none)
 else if unB (crQ (su c a) (su d c)/crQ (su b a) (su d c))&&unB (crQ (su c a) (su b a)/crQ (su b a) (su d c)) then
  some (lin a b (crQ (su c a) (su d c)/crQ (su b a) (su d c)),lin a b (crQ (su c a) (su d c)/crQ (su b a) (su d c)))
 else none
def mtP(o:Option (P2×P2)):P2×P2:=o.getD ((0,0),(0,0))
abbrev mtV(o:Option (P2×P2)):D:=sD (mtP o).1 (mtP o).2
theorem quD00:quD 0 0 0 0= .a [.v (.bool false),.v (.string emp),.v (.string emp),.v (.bool false),.v (.string emp),.v (.string emp),.v (.bool false),.v (.string emp),.v (.string emp),.v (.bool false),.v (.string emp),.v (.string emp)] :=by
 unfold quD;rw [rneg_zero,rnum_zero,rden_zero]
theorem mtV0:mtV none= .a [.v (.bool false),.v (.string emp),.v (.string emp),.v (.bool false),.v (.string emp),.v (.string emp),.v (.bool false),.v (.string emp),.v (.string emp),.v (.bool false),.v (.string emp),.v (.string emp)] :=quD00
def BP(n:Nat)(p:P2):Prop:=Bd n p.1∧Bd n p.2
theorem BP.q{n:Nat}{p:P2}(h:BP n p)(hn:n<90000000000):QP p:=⟨.mk h.1 hn,.mk h.2 hn⟩
theorem BP.su{n:Nat}{p q:P2}(h:BP n p)(k:BP n q):BP (2*n+1) (su p q):=⟨(h.1.sub k.1).mono (by omega),(h.2.sub k.2).mono (by omega)⟩
theorem BP.cr{n:Nat}{p q:P2}(h:BP n p)(k:BP n q):Bd (4*n+1) (crQ p q):=((h.1.mul k.2).sub (h.2.mul k.1)).mono (by omega)
theorem sgnI_zero{p:Rat}:sgnI p=0↔p=0:=by rw [sgnI_eq];exact sgnQ_zero
theorem ordP_q{P:P2→Prop}{a b:P2}(ha:P a)(hb:P b):P (ordP a b).1∧P (ordP a b).2:=by
 unfold ordP;split
 ·exact ⟨hb,ha⟩
 ·exact ⟨ha,hb⟩
theorem gtrP_q{P:P2→Prop}{a b:P2}(ha:P a)(hb:P b):P (gtrP a b):=by unfold gtrP;split<;>assumption
theorem lsrP_q{P:P2→Prop}{a b:P2}(ha:P a)(hb:P b):P (lsrP a b):=by unfold lsrP;split<;>assumption
theorem bnot_t{b:Bool}(h:bnot b=true):b=false:=by cases b<;>simp_all [bnot]
theorem bnot_f{b:Bool}(h:bnot b=false):b=true:=by cases b<;>simp_all [bnot]
theorem meet_c{a b c d:P2}{n:Nat}(ha:BP n a)(hb:BP n b)(hc:BP n c)(hd:BP n d)(hn:n<100000000):
  Fun Tryz.prog 334 [sD a b,sD c d] [mtV (mtQ a b c d),.v (.bool (mtQ a b c d).isSome)] :=by
 have du:=hb.su ha
 have dv:=hd.su hc
 have dw:=hc.su ha
 have bD:=du.cr dv
 have bx:=dw.cr dv
 have by':=dw.cr du
 have bz':=du.cr dw
 have qa:=ha.q (by omega)
 have qb:=hb.q (by omega)
 have qc:=hc.q (by omega)
 have qd:=hd.q (by omega)
 refine fun_of_go (fun t=>t==2||t==3||t==4||t==6||t==7||t==8||t==9||t==10||t==12||t==14||t==15||t==16) mixed tOk Tryz.func334 rfl rfl ?_
 conv=>whnf
 refine callv_data (dir_c qa.1 qa.2 qb.1 qb.2) ?_
 conv=>whnf
 refine callv_data (dir_c qc.1 qc.2 qd.1 qd.2) ?_
 conv=>whnf
 refine callv_data (vsub_c qc.1 qc.2 qa.1 qa.2) ?_
 conv=>whnf
 refine safe_intro (by kernel_rfl) ?_
 conv=>whnf
 refine call_data rfl rfl (cross_c du.1 du.2 dv.1 dv.2 (by omega)) ?_
 conv=>whnf
 refine call_data rfl rfl (sign_q (.mk bD (by omega))) ?_
 conv=>whnf
 refine cond_ne (fun h=> ?_) (fun h=> ?_)
 ·have h0: ¬crQ (su b a) (su d c)=0:=fun hh=>h (sgnI_zero.2 hh)
  conv=>whnf
  refine callv_data (cross_c dw.1 dw.2 dv.1 dv.2 (by omega)) ?_
  conv=>whnf
  refine callv_data (quo_q (.mk bx (by omega)) (.mk bD (by omega))) ?_
  conv=>whnf
  refine safe_intro (by kernel_rfl) ?_
  conv=>whnf
  refine callv_data (cross_c dw.1 dw.2 du.1 du.2 (by omega)) ?_
  conv=>whnf
  refine callv_data (quo_q (.mk by' (by omega)) (.mk bD (by omega))) ?_
  conv=>whnf
  refine safe_intro (by kernel_rfl) ?_
  conv=>whnf
  have bX:Bd (2*(4*(2*n+1)+1)) (crQ (su c a) (su d c)/crQ (su b a) (su d c)):=(bx.div bD).mono (by omega)
  have bY:Bd (2*(4*(2*n+1)+1)) (crQ (su c a) (su b a)/crQ (su b a) (su d c)):=(by'.div bD).mono (by omega)
  refine call_data rfl rfl (unit_c (.mk bX (by omega))) ?_
  conv=>whnf
  refine cond_intro (fun h1=> ?_) (fun h1=> ?_)
  ·have h1':unB (crQ (su c a) (su d c)/crQ (su b a) (su d c))=false:=bnot_t h1
   have e:mtQ a b c d=none:=by unfold mtQ;rw [if_neg h0,h1'];rfl
   rw [e]
   conv=>whnf
   refine ⟨?_, ?_,trivial⟩
   ·rw [mtV0]
    conv=>whnf
    exact ⟨rfl,rfl,rfl,rfl,rfl,rfl,rfl,rfl,rfl,rfl,rfl,rfl,trivial⟩
   ·conv=>whnf
    rfl
  ·have h1':unB (crQ (su c a) (su d c)/crQ (su b a) (su d c))=true:=bnot_f h1
   conv=>whnf
   refine call_data rfl rfl (unit_c (.mk bY (by omega))) ?_
   conv=>whnf
   refine cond_intro (fun h2=> ?_) (fun h2=> ?_)
   ·have h2':unB (crQ (su c a) (su b a)/crQ (su b a) (su d c))=false:=bnot_t h2
    have e:mtQ a b c d=none:=by unfold mtQ;rw [if_neg h0,h1',h2'];rfl
    rw [e]
    conv=>whnf
    refine ⟨?_, ?_,trivial⟩
    ·rw [mtV0]
     conv=>whnf
     exact ⟨rfl,rfl,rfl,rfl,rfl,rfl,rfl,rfl,rfl,rfl,rfl,rfl,trivial⟩
    ·conv=>whnf
     rfl
   ·have h2':unB (crQ (su c a) (su b a)/crQ (su b a) (su d c))=true:=bnot_f h2
    have e:mtQ a b c d=some (lin a b (crQ (su c a) (su d c)/crQ (su b a) (su d c)),lin a b (crQ (su c a) (su d c)/crQ (su b a) (su d c))):=by
     unfold mtQ;rw [if_neg h0,h1',h2'];rfl
    rw [e]
    conv=>whnf
    refine call_data rfl rfl (vat_c ha.1 ha.2 hb.1 hb.2 bX (by omega) (by omega)) ?_
    conv=>whnf
    refine ⟨?_, ?_,trivial⟩
    ·conv=>whnf
     exact ⟨rfl,rfl,rfl,rfl,rfl,rfl,rfl,rfl,rfl,rfl,rfl,rfl,trivial⟩
    ·conv=>whnf
     rfl
 ·have h0:crQ (su b a) (su d c)=0:=sgnI_zero.1 h
  conv=>whnf
  refine call_data rfl rfl (cross_c du.1 du.2 dw.1 dw.2 (by omega)) ?_
  conv=>whnf
  refine call_data rfl rfl (sign_q (.mk bz' (by omega))) ?_
  conv=>whnf
  refine cond_ne (fun h1=> ?_) (fun h1=> ?_)
  ·have h1': ¬crQ (su b a) (su c a)=0:=fun hh=>h1 (sgnI_zero.2 hh)
   have e:mtQ a b c d=none:=by unfold mtQ;rw [if_pos h0,if_neg h1']
   rw [e]
   conv=>whnf
   refine ⟨?_, ?_,trivial⟩
   ·rw [mtV0]
    conv=>whnf
    exact ⟨rfl,rfl,rfl,rfl,rfl,rfl,rfl,rfl,rfl,rfl,rfl,rfl,trivial⟩
   ·conv=>whnf
    rfl
  ·have h1':crQ (su b a) (su c a)=0:=sgnI_zero.1 h1
   have o1:=ordP_q (P:=QP) qa qb
   have o2:=ordP_q (P:=QP) qc qd
   have g1:=gtrP_q (P:=QP) o1.1 o2.1
   have g2:=lsrP_q (P:=QP) o1.2 o2.2
   conv=>whnf
   refine callv_data (order_c qa qb) ?_
   conv=>whnf
   refine callv_data (order_c qc qd) ?_
   conv=>whnf
   refine safe_intro (by kernel_rfl) ?_
   conv=>whnf
   refine callv_data (greater_c o1.1 o2.1) ?_
   conv=>whnf
   refine callv_data (lesser_c o1.2 o2.2) ?_
   conv=>whnf
   refine safe_intro (by kernel_rfl) ?_
   conv=>whnf
   refine call_data rfl rfl (vcmp_c g1.1 g1.2 g2.1 g2.2) ?_
   conv=>whnf
   refine cond_d (fun h2=> ?_) (fun h2=> ?_)
   ·have e:mtQ a b c d=none:=by unfold mtQ;rw [if_pos h0,if_pos h1',if_pos h2]
    rw [e]
    conv=>whnf
    refine ⟨?_, ?_,trivial⟩
    ·rw [mtV0]
     conv=>whnf
     exact ⟨rfl,rfl,rfl,rfl,rfl,rfl,rfl,rfl,rfl,rfl,rfl,rfl,trivial⟩
    ·conv=>whnf
     rfl
   ·have e:mtQ a b c d=some (gtrP (ordP a b).1 (ordP c d).1,lsrP (ordP a b).2 (ordP c d).2):=by unfold mtQ;rw [if_pos h0,if_pos h1',if_neg h2]
    rw [e]
    conv=>whnf
    refine ⟨?_, ?_,trivial⟩
    ·conv=>whnf
     exact ⟨rfl,rfl,rfl,rfl,rfl,rfl,rfl,rfl,rfl,rfl,rfl,rfl,trivial⟩
    ·conv=>whnf
     rfl
def mtB(a b c d:P2):Bool:= !(decide (a=b)||decide (c=d))&&(mtQ a b c d).isSome
theorem pt_eq{a b:P2}:(a.1=b.1∧a.2=b.2)↔a=b:=⟨fun h=>Prod.ext h.1 h.2,fun h=>by rw [h];exact ⟨rfl,rfl⟩⟩
theorem smeet_c{a b c d:P2}{n:Nat}(ha:BP n a)(hb:BP n b)(hc:BP n c)(hd:BP n d)(hn:n<100000000):
  Fun Tryz.prog 283 [sD a b,sD c d] [mtV (if a=b∨c=d then none else mtQ a b c d),.v (.bool (mtB a b c d)),i64 (if a=b∨c=d then 12 else 0)] :=by
 have qa:=ha.q (by omega)
 have qb:=hb.q (by omega)
 have qc:=hc.q (by omega)
 have qd:=hd.q (by omega)
 refine fun_of_go (fun t=>t==4||t==7) mixed tOk Tryz.func283 rfl rfl ?_
 conv=>whnf
 refine call_data rfl rfl (wrong_c qa.1 qa.2 qb.1 qb.2 qc.1 qc.2 qd.1 qd.2) ?_
 conv=>whnf
 refine cond_intro (fun h=> ?_) (fun h=> ?_)
 ·have h':a=b∨c=d:=by
   rw [Bool.or_eq_true,decide_eq_true_eq,decide_eq_true_eq,pt_eq,pt_eq] at h;exact h
  have e:mtB a b c d=false:=by
   unfold mtB
   rcases h' with h'|h'
   ·rw [decide_eq_true h'];rfl
   ·rw [decide_eq_true h',Bool.or_true];rfl
  rw [if_pos h',if_pos h',e]
  conv=>whnf
  refine ⟨?_, ?_, ?_,trivial⟩
  ·rw [mtV0]
   conv=>whnf
   exact ⟨rfl,rfl,rfl,rfl,rfl,rfl,rfl,rfl,rfl,rfl,rfl,rfl,trivial⟩
  ·conv=>whnf
  ·conv=>whnf
 ·have h': ¬(a=b∨c=d):=by
   rw [Bool.or_eq_false_iff,decide_eq_false_iff_not,decide_eq_false_iff_not,pt_eq,pt_eq] at h
   rintro (hh|hh)
   ·exact h.1 hh
   ·exact h.2 hh
  have e:mtB a b c d=(mtQ a b c d).isSome:=by
   unfold mtB
   rw [decide_eq_false (fun hh=>h' (.inl hh)),decide_eq_false (fun hh=>h' (.inr hh))];rfl
  rw [if_neg h',if_neg h',e]
  conv=>whnf
  refine call_data rfl rfl (meet_c ha hb hc hd hn) ?_
  conv=>whnf
  refine ⟨?_, ?_, ?_,trivial⟩
  ·conv=>whnf
   exact ⟨rfl,rfl,rfl,rfl,rfl,rfl,rfl,rfl,rfl,rfl,rfl,rfl,trivial⟩
  ·conv=>whnf
  ·conv=>whnf
abbrev pL(l:List P2):List D:=l.map pD
theorem pL_uni(l:List P2):Uni 6 (pL l):=by
 intro x hx
 obtain ⟨p,_,rfl⟩:=List.mem_map.1 hx
 rfl
theorem pL_get{l:List P2}{i:Nat}(h:i<l.length):(pL l)[(i:Int).toNat]? =some (pD l[i]):=by simp [h]
theorem pL_len(l:List P2):(pL l).length=l.length:=by simp
noncomputable def rfO(b:Option Code):Code×Code:=match b with
 |some c=>match rngs c with
  |p::_=>p
  | [] =>(.skip,.skip)
 |none=>(.skip,.skip)
theorem redges_c(l:List P2):Fun Tryz.prog 185 [.l (pL l)] [.f 262 [.p 0 [.l (pL l)]]] :=by
 refine fun_of_go (fun t=>false) mixed tOk Tryz.func185 rfl rfl ?_
 conv=>whnf
 refine ⟨?_,trivial⟩
 conv=>whnf
 rfl
theorem prs_len: ∀(l:List P2) (a:P2),(prs a l).length=l.length
 | [],a=>rfl
 |b::l,a=>by simp only [prs,List.length_cons,prs_len l b]
theorem cyc_len(l:List P2):(cyc l).length=l.length:=by
 cases l with
 |nil=>rfl
 |cons a l=>simp only [cyc,prs_len,List.length_append,List.length_cons,List.length_nil]
theorem prs_get: ∀(l:List P2) (a:P2) (i:Nat) (h:i<l.length),(prs a l)[i]? =some ((a::l)[i]'(by simp;omega),l[i])
 |b::l,a,0,h=>rfl
 |b::l,a,i+1,h=>by
  simp only [prs,List.getElem?_cons_succ,List.getElem_cons_succ]
  exact prs_get l b i (by simpa using h)
theorem mod_lt'{i n:Nat}(h:i<n):(i+1)%n<n:=Nat.mod_lt _ (by omega)
theorem cyc_get{l:List P2}{i:Nat}(h:i<l.length):(cyc l)[i]'(by rw [cyc_len];exact h)=(l[i],l[(i+1)%l.length]'(mod_lt' h)):=by
 cases l with
 |nil=>simp at h
 |cons a l=>
  have e:=prs_get (l++ [a]) a i (by simpa using h)
  have this:=(List.getElem?_eq_getElem (l:=cyc (a::l)) (i:=i) (by rw [cyc_len];exact h)).symm.trans e
  rw [Option.some.inj this]
  congr 1
  ·simp only [←List.cons_append]
   rw [List.getElem_append_left]
  ·simp only [List.length_cons] at h ⊢
   by_cases hi:i<l.length
   ·rw [List.getElem_append_left hi]
    simp only [Nat.mod_eq_of_lt (show i+1<l.length+1 by omega),List.getElem_cons_succ]
   ·have hi':i=l.length:=by omega
    subst hi'
    simp only [Nat.mod_self,List.getElem_cons_zero]
    rw [List.getElem_append_right (by omega)]
    simp
theorem cyc_take{l:List P2}{i:Nat}(h:i<l.length):(cyc l).take (i+1)=(cyc l).take i++ [(l[i],l[(i+1)%l.length]'(mod_lt' h))] :=by
 rw [List.take_succ_eq_append_getElem (by rw [cyc_len];exact h),cyc_get h]
theorem sumE_one(f:P2→P2→Rat)(e:P2×P2):sumE f [e] =f e.1 e.2:=by simp only [sumE];grind
theorem tmod_nat(a b:Nat):Int.tmod (a:Int) (b:Int)=((a%b:Nat):Int):=rfl
theorem tot_all(f:P2→P2→Rat)(l:List P2):sumE f ((cyc l).take l.length)=tot f l:=by
 unfold tot;rw [List.take_of_length_le (by rw [cyc_len];omega)]
theorem nx_get{l:List P2}{i:Nat}(h:i<l.length):(pL l)[(Int.tmod ((i:Int)+1) ((pL l).length:Int)).toNat]? =some (pD (l[(i+1)%l.length]'(mod_lt' h))):=by
 rw [pL_len,show ((i:Int)+1)=((i+1:Nat):Int) from rfl,tmod_nat,Int.toNat_natCast,List.getElem?_map,List.getElem?_eq_getElem (mod_lt' h)];rfl
theorem nx_nn(a b:Nat):0≤Int.tmod ((a:Int)+1) (b:Int):=by
 rw [show ((a:Int)+1)=((a+1:Nat):Int) from rfl,tmod_nat];omega
noncomputable def areaSt(l:List P2)(i:Nat):St:=
 ⟨fr 25 [(0,.own 2 0),(1,.d (.p 0 [.l (pL l)])),(5,.d (.l (pL l))),(6,.d (i64 (pL l).length)),(7,.d (i64 i))],
  [.box 27 [.d (.v (.bool false)),.d (.v (.string emp)),.d (.v (.string emp))],
  .box 27 [.d (.v (.bool (rneg (sumE crQ ((cyc l).take i))))),.d (.v (.string (rnum (sumE crQ ((cyc l).take i))))),.d (.v (.string (rden (sumE crQ ((cyc l).take i)))))],
  .loop .ready none #[10,11] (rfO Tryz.f101.body).1 (rfO Tryz.f101.body).2 (fr 24 [(2,.ptr 0 0 0),(3,.ptr 1 0 0)])]⟩
theorem area_bd{l:List P2}{n:Nat}(hl: ∀p∈l,BP n p): ∀i,i≤l.length→Bd (i*(4*n+2)) (sumE crQ ((cyc l).take i))
 |0,_=>by simp only [Nat.zero_mul,List.take_zero,sumE];exact bd_int 0 (by simp)
 |i+1,h=>by
  rw [cyc_take h,sumE_append,sumE_one]
  have h1:=area_bd hl i (by omega)
  have h2:=(hl l[i] (List.getElem_mem _)).cr (hl (l[(i+1)%l.length]'(mod_lt' h)) (List.getElem_mem _))
  exact (h1.add h2).mono (by rw [Nat.add_mul];omega)
theorem area_c(l:List P2){n:Nat}(hl: ∀p∈l,BP n p)(hn:n<1000000)(hlen:l.length≤2000):Fun Tryz.prog 101 [.l (pL l)] [ratD (tot crQ l/2)] :=by
 have hmul: ∀i,i≤l.length→i*(4*n+2)≤2000*(4*1000000+2):=fun i h=>Nat.mul_le_mul (by omega) (by omega)
 refine fun_of_go (fun t=>t==2||t==3||t==4||t==5||t==6) mixed tOk Tryz.func101 rfl rfl ?_
 conv=>whnf
 refine call_data rfl rfl (redges_c l) ?_
 conv=>whnf
 refine range_intro (g:=262) (cap:= [.d (.p 0 [.l (pL l)])]) (fun t=>t==2||t==3||t==4||t==5||t==6) mixed tOk rfl rfl rfl rfl rfl ?_
 conv=>whnf
 refine loop_introD (fun t=>t==2||t==3||t==4||t==5||t==6) (fun i:Nat=>areaSt l i) (fun i=>i≤l.length) (fun i=>l.length-i) 0 mixed tOk (by omega) ?_ ?_
 ·unfold areaSt
  simp only [List.take_zero,sumE,rneg_zero,rnum_zero,rden_zero]
  refine weak_l ?_ ?_<;>repeat' (first|exact trivial|exact rfl|apply And.intro)
 ·intro i hi
  conv=>whnf
  refine cond_d (fun hlt=> ?_) (fun hge=> ?_)
  ·have hlt':i<l.length:=by rw [pL_len] at hlt;omega
   have hm:=mod_lt' hlt'
   conv=>whnf
   refine idx_intro (pD l[i]) (pL_get hlt') (by omega) (pL_uni l) ?_
   conv=>whnf
   refine okc_drawY 10 _ (fun t=>t==2||t==3||t==4||t==5||t==6) (.tmp 12) [.tmp 13,.tmp 21] mixed tOk rfl rfl ⟨_,rfl⟩ (by kernel_rfl) ?_
   conv=>whnf
   refine sd_d (by omega) ?_
   conv=>whnf
   refine sd_d (by omega) ?_
   conv=>whnf
   refine idx_intro (pD (l[(i+1)%l.length]'hm)) (nx_get hlt') (nx_nn _ _) (pL_uni l) ?_
   conv=>whnf
   refine safe_intro (by kernel_rfl) ?_
   conv=>whnf
   refine call_yield (fun t=>t==2||t==3||t==4||t==5||t==6) mixed tOk rfl rfl rfl ?_
   conv=>whnf
   have b1:=hl l[i] (List.getElem_mem _)
   have b2:=hl (l[(i+1)%l.length]'hm) (List.getElem_mem _)
   have b0:=area_bd hl i hi
   have hmi:=hmul _ hi
   refine okc_go (fun t=>t==2||t==3||t==4||t==5||t==6) mixed tOk ?_
   conv=>whnf
   refine callv_data (cross_c b1.1 b1.2 b2.1 b2.2 (by omega)) ?_
   conv=>whnf
   refine callv_data (add_q (.mk b0 (by omega)) (.mk (b1.cr b2) (by omega))) ?_
   conv=>whnf
   refine safe_intro (by kernel_rfl) ?_
   conv=>whnf
   refine safe_intro (by kernel_rfl) ?_
   conv=>whnf
   refine sd_d (by omega) ?_
   conv=>whnf
   refine ⟨i+1,by omega,by omega, ?_⟩
   unfold areaSt
   rw [cyc_take hlt',sumE_append,sumE_one,Int.natCast_succ]
   refine weak_dead 3 rfl (weak_dead 4 rfl (weak_dead 5 rfl (weak_dead 6 rfl ?_)))
   refine weak_l ?_ ?_<;>repeat' (first|exact trivial|exact rfl|apply And.intro)
  ·have:i=l.length:=by rw [pL_len] at hge;omega
   subst this
   conv=>whnf
   refine callv_data (of_r 2 (by omega)) ?_
   conv=>whnf
   refine callv_data (quo_q (.mk (area_bd hl _ hi) (by have:=hmul _ hi;omega)) (.mk (bd_int 2 (n:=1) (by decide)) (by omega))) ?_
   conv=>whnf
   refine safe_intro (by kernel_rfl) ?_
   conv=>whnf
   refine ⟨?_,trivial⟩
   conv=>whnf
   rw [tot_all]
   exact ⟨rfl,rfl,rfl,trivial⟩
abbrev eL(l:List (P2×P2)):List D:=l.map fun e=>sD e.1 e.2
theorem eL_uni(l:List (P2×P2)):Uni 12 (eL l):=by
 intro x hx
 obtain ⟨p,_,rfl⟩:=List.mem_map.1 hx
 rfl
noncomputable def edgSt(l:List P2)(i:Nat):St:=
 ⟨fr 25 [(0,.own 3 0),(1,.d (.p 0 [.l (pL l)])),(5,.d (.l (pL l))),(6,.d (i64 (pL l).length)),(7,.d (i64 i))],
  [.dead,.box 124 [.own 2 0],.row 0 46 12 160 (eL ((cyc l).take i)),
  .loop .ready none #[8,9] (rfO Tryz.f263.body).1 (rfO Tryz.f263.body).2 (fr 17 [(3,.ptr 1 0 0)])]⟩
theorem edges_c(l:List P2)(hlen:l.length≤100000):Fun Tryz.prog 263 [.l (pL l)] [.l (eL (cyc l))] :=by
 refine fun_of_go (fun t=>t==3||t==4||t==5) mixed tOk Tryz.func263 rfl rfl ?_
 conv=>whnf
 refine call_data rfl rfl (redges_c l) ?_
 conv=>whnf
 refine okc_own 1 0 46 12 160 ?_
 refine range_intro (g:=262) (cap:= [.d (.p 0 [.l (pL l)])]) (fun t=>t==3||t==4||t==5) mixed tOk rfl rfl rfl rfl rfl ?_
 conv=>whnf
 refine loop_introD (fun t=>t==3||t==4||t==5) (fun i:Nat=>edgSt l i) (fun i=>i≤l.length) (fun i=>l.length-i) 0 mixed tOk (by omega) ?_ ?_
 ·refine weak_dead 0 rfl ?_
  refine weak_l ?_ ?_<;>repeat' (first|exact trivial|exact rfl|apply And.intro)
 ·intro i hi
  conv=>whnf
  refine cond_d (fun hlt=> ?_) (fun hge=> ?_)
  ·have hlt':i<l.length:=by rw [pL_len] at hlt;omega
   have hm:=mod_lt' hlt'
   conv=>whnf
   refine idx_intro (pD l[i]) (pL_get hlt') (by omega) (pL_uni l) ?_
   conv=>whnf
   refine okc_drawY 10 _ (fun t=>t==3||t==4||t==5) (.tmp 12) [.tmp 13,.tmp 21] mixed tOk rfl rfl ⟨_,rfl⟩ (by kernel_rfl) ?_
   conv=>whnf
   refine sd_d (by omega) ?_
   conv=>whnf
   refine sd_d (by omega) ?_
   conv=>whnf
   refine idx_intro (pD (l[(i+1)%l.length]'hm)) (nx_get hlt') (nx_nn _ _) (pL_uni l) ?_
   conv=>whnf
   refine safe_intro (by kernel_rfl) ?_
   conv=>whnf
   refine call_yield (fun t=>t==3||t==4||t==5) mixed tOk rfl rfl rfl ?_
   conv=>whnf
   have hll:(eL ((cyc l).take i)).length≤100000:=by simp [cyc_len];omega
   refine sd_app (eL_uni _) (by intro x hx;rcases List.mem_singleton.1 hx with rfl;rfl) (by simp only [maxLen,List.length_cons,List.length_nil];omega) ?_
   conv=>whnf
   refine safe_intro (by kernel_rfl) ?_
   conv=>whnf
   refine sd_d (by omega) ?_
   conv=>whnf
   refine ⟨i+1,by omega,by omega, ?_⟩
   unfold edgSt
   have e:eL ((cyc l).take (i+1))=eL ((cyc l).take i)++ [sD l[i] (l[(i+1)%l.length]'hm)] :=by rw [cyc_take hlt'];simp only [eL,List.map_append,List.map_cons,List.map_nil]
   rw [e,Int.natCast_succ]
   refine weak_dead 4 rfl (weak_dead 5 rfl (weak_dead 6 rfl (weak_dead 7 rfl ?_)))
   refine weak_l ?_ ?_<;>repeat' (first|exact trivial|exact rfl|apply And.intro)
  ·have:i=l.length:=by rw [pL_len] at hge;omega
   subst this
   conv=>whnf
   refine ⟨?_,trivial⟩
   conv=>whnf
   rw [List.take_of_length_le (by rw [cyc_len];omega)]
abbrev pR(p:RD×RD):D:=ptR p.1 p.2
abbrev rL(l:List (RD×RD)):List D:=l.map pR
theorem rL_uni(l:List (RD×RD)):Uni 6 (rL l):=by
 intro x hx
 obtain ⟨p,_,rfl⟩:=List.mem_map.1 hx
 rfl
theorem rL_get{l:List (RD×RD)}{i:Nat}(h:i<l.length):(rL l)[(i:Int).toNat]? =some (pR l[i]):=by simp [h]
def fstI{α:Type}(g:α→Bool)(l:List α):Int:=match l.findIdx? g with
 |some i=>(i:Int)
 |none=> -1
theorem fstI_at{α:Type}{g:α→Bool}{l:List α}{i:Nat}(h:i<l.length)(h1: ∀j (hj:j<i),g (l[j]'(by omega))=false)(h2:g l[i] =true):fstI g l=i:=by
 have e:l.findIdx? g=some i:=by
  rw [List.findIdx?_eq_some_iff_getElem]
  exact ⟨h,h2,fun j hj=>by simpa using h1 j hj⟩
 unfold fstI;rw [e]
theorem fstI_no{α:Type}{g:α→Bool}{l:List α}(h1: ∀j (hj:j<l.length),g l[j] =false):fstI g l= -1:=by
 have e:l.findIdx? g=none:=by
  rw [List.findIdx?_eq_none_iff]
  intro x hx
  obtain ⟨i,hi,rfl⟩:=List.getElem_of_mem hx
  exact h1 i hi
 unfold fstI;rw [e]
theorem fstI_any{α:Type}(g:α→Bool)(l:List α):decide (0≤fstI g l)=l.any g:=by
 unfold fstI
 cases h:l.findIdx? g with
 |none=>
  rw [List.findIdx?_eq_none_iff] at h
  have:l.any g=false:=by rw [List.any_eq_false];intro x hx;simp [h x hx]
  rw [this];rfl
 |some i=>
  rw [List.findIdx?_eq_some_iff_getElem] at h
  obtain ⟨hi,h2,_⟩:=h
  have:l.any g=true:=List.any_eq_true.2 ⟨l[i],List.getElem_mem _,h2⟩
  rw [this];simp
theorem idx287{f:FuncId}{cap:List D}(g:RD×RD→Bool)(l:List (RD×RD))(hl:l.length<1000000000)(h: ∀p∈l,Fun Tryz.prog f ([pR p] ++cap) [.v (.bool (g p))]):
  Fun Tryz.prog 287 [.l (rL l),.f f cap] [i64 (fstI g l)] :=by
 have hll:(rL l).length=l.length:=by simp
 refine fun_of_go (fun t=>false) mixed tOk Tryz.func287 rfl rfl ?_
 conv=>whnf
 refine loop_intro (fun t=>false) (fun i:Nat=>⟨fr 19 [(0,.d (.l (rL l))),(1,.d (.f f cap)),(7,.d (i64 (rL l).length)),(8,.d (i64 i))], []⟩) (fun i=>i≤l.length∧ ∀j (hj:j<i) (hjl:j<l.length),g l[j] =false) (fun i=>l.length-i) 0 mixed tOk ⟨by omega,fun j hj=>by omega⟩ ?_ ?_
 ·refine weak_r ?_ ?_<;>repeat' (first|exact trivial|exact rfl|apply And.intro)
 ·rintro i ⟨hi,hno⟩
  conv=>whnf
  refine cond_d (fun hlt=> ?_) (fun hge=> ?_)
  ·have hlt':i<l.length:=by omega
   conv=>whnf
   refine idx_intro (pR l[i]) (rL_get hlt') (by omega) (rL_uni l) ?_
   conv=>whnf
   refine call_data rfl rfl (h l[i] (List.getElem_mem _)) ?_
   conv=>whnf
   refine cond_intro (fun h1=> ?_) (fun h1=> ?_)
   ·rw [fstI_at hlt' (fun j hj=>hno j hj (by omega)) h1]
    conv=>whnf
    exact ⟨rfl,trivial⟩
   ·conv=>whnf
    refine sd_d (by omega) ?_
    conv=>whnf
    refine ⟨i+1,⟨by omega,fun j hj hjl=> ?_⟩,by omega, ?_⟩
    ·by_cases hji:j=i
     ·subst hji;exact h1
     ·exact hno j (by omega) hjl
    rw [Int.natCast_succ]
    refine weak_r ?_ ?_<;>repeat' (first|exact trivial|exact rfl|apply And.intro)
  ·have:i=l.length:=by omega
   subst this
   rw [fstI_no (fun j hj=>hno j hj hj)]
   conv=>whnf
   exact ⟨rfl,trivial⟩
theorem contains217{f:FuncId}{cap:List D}(g:RD×RD→Bool)(l:List (RD×RD))(hl:l.length<1000000000)(h: ∀p∈l,Fun Tryz.prog f ([pR p] ++cap) [.v (.bool (g p))]):
  Fun Tryz.prog 217 [.l (rL l),.f f cap] [.v (.bool (l.any g))] :=by
 refine fun_of_go (fun t=>false) mixed tOk Tryz.func217 rfl rfl ?_
 conv=>whnf
 refine call_data rfl rfl (idx287 g l hl h) ?_
 conv=>whnf
 refine ⟨?_,trivial⟩
 conv=>whnf
 rw [bz_eq, ←fstI_any]
def okR(p:RD×RD):Bool:=decide (okP p.1 p.2=0)
def SzP(p:RD×RD):Prop:=Sz p.1∧Sz p.2
theorem rcanon1_c{p:RD×RD}(h:SzP p):Fun Tryz.prog 218 [pR p] [.v (.bool (!okR p))] :=by
 refine fun_of_go (fun t=>false) mixed tOk Tryz.func218 rfl rfl ?_
 conv=>whnf
 refine call_data rfl rfl (vcheck_c p.1 p.2 h.1 h.2) ?_
 conv=>whnf
 refine ⟨?_,trivial⟩
 conv=>whnf
 rw [bz_eq]
 unfold okR
 rw [Bool.eq_iff_iff];simp
theorem rcanon_c(l:List (RD×RD))(hl:l.length<1000000000)(h: ∀p∈l,SzP p):Fun Tryz.prog 123 [.l (rL l)] [.v (.bool (l.all okR))] :=by
 refine fun_of_go (fun t=>false) mixed tOk Tryz.func123 rfl rfl ?_
 conv=>whnf
 refine call_data rfl rfl (contains217 (fun p=> !okR p) l hl (fun p hp=>rcanon1_c (h p hp))) ?_
 conv=>whnf
 refine ⟨?_,trivial⟩
 conv=>whnf
 rw [bnot_eq,List.not_any_eq_all_not];simp
def ix(l:List P2)(k:Nat):P2:=l.getD (k%l.length) (0,0)
theorem ix_lt{l:List P2}{k:Nat}(h:k<l.length):ix l k=l[k] :=by
 unfold ix;rw [Nat.mod_eq_of_lt h,List.getD_eq_getElem?_getD,List.getElem?_eq_getElem h];rfl
theorem ix_mod{l:List P2}{k:Nat}(h:0<l.length):ix l k=l[k%l.length]'(Nat.mod_lt _ h):=by
 unfold ix;rw [List.getD_eq_getElem?_getD,List.getElem?_eq_getElem (Nat.mod_lt _ h)];rfl
theorem ix_mem{l:List P2}{k:Nat}(h:0<l.length):ix l k∈l:=by rw [ix_mod h];exact List.getElem_mem _
theorem ix_get{l:List P2}{k:Nat}(h:0<l.length):(pL l)[(Int.tmod ((k:Nat):Int) ((pL l).length:Int)).toNat]? =some (pD (ix l k)):=by
 rw [pL_len,tmod_nat,Int.toNat_natCast,List.getElem?_map,List.getElem?_eq_getElem (Nat.mod_lt _ h),ix_mod h];rfl
theorem ix_at{l:List P2}{i:Nat}(h:i<l.length):(pL l)[(i:Int).toNat]? =some (pD (ix l i)):=by
 rw [ix_lt h];exact pL_get h
def flB(l:List P2)(i:Nat):Bool:=decide (orI (ix l (i+l.length-1)) (ix l i) (ix l (i+1))=0)
theorem flat_c(l:List P2){n:Nat}(hl: ∀p∈l,BP n p)(hn:n<10000000)(hlen:l.length≤100000):Fun Tryz.prog 205 [.l (pL l)] [i64 (fstI (flB l) (List.range l.length))] :=by
 have hll:(pL l).length=l.length:=by simp
 refine fun_of_go (fun t=>t==5) mixed tOk Tryz.func205 rfl rfl ?_
 conv=>whnf
 refine loop_intro (fun t=>t==5) (fun i:Nat=>⟨fr 36 [(0,.d (.l (pL l))),(3,.d (i64 (pL l).length)),(8,.d (.l (pL l))),(9,.d (i64 (pL l).length)),(10,.d (i64 i))], []⟩) (fun i=>i≤l.length∧ ∀j,j<i→flB l j=false) (fun i=>l.length-i) 0 mixed tOk ⟨by omega,fun j hj=>by omega⟩ ?_ ?_
 ·refine weak_r ?_ ?_<;>repeat' (first|exact trivial|exact rfl|apply And.intro)
 ·rintro i ⟨hi,hno⟩
  conv=>whnf
  refine cond_d (fun hlt=> ?_) (fun hge=> ?_)
  ·have hlt':i<l.length:=by omega
   have h0:0<l.length:=by omega
   have e1:((i:Int)+((pL l).length:Int)-1)=((i+l.length-1:Nat):Int):=by omega
   have e2:((i:Int)+1)=((i+1:Nat):Int):=rfl
   conv=>whnf
   refine idx_intro (pD (ix l i)) (ix_at hlt') (by omega) (pL_uni l) ?_
   conv=>whnf
   refine sd_d (by omega) ?_
   conv=>whnf
   refine sd_d (by omega) ?_
   conv=>whnf
   refine sd_d (by omega) ?_
   conv=>whnf
   refine idx_intro (pD (ix l (i+l.length-1))) (by rw [e1];exact ix_get h0) (by rw [e1,pL_len,tmod_nat];omega) (pL_uni l) ?_
   conv=>whnf
   refine sd_d (by omega) ?_
   conv=>whnf
   refine sd_d (by omega) ?_
   conv=>whnf
   refine idx_intro (pD (ix l (i+1))) (by rw [e2];exact ix_get h0) (by rw [e2,pL_len,tmod_nat];omega) (pL_uni l) ?_
   conv=>whnf
   have m1:=hl _ (ix_mem h0 (k:=i+l.length-1))
   have m2:=hl _ (ix_mem h0 (k:=i))
   have m3:=hl _ (ix_mem h0 (k:=i+1))
   refine callv_data (orient_c m1.1 m1.2 m2.1 m2.2 m3.1 m3.2 (by omega)) ?_
   conv=>whnf
   refine safe_intro (by kernel_rfl) ?_
   conv=>whnf
   refine cond_e (fun h1=> ?_) (fun h1=> ?_)
   ·have e:fstI (flB l) (List.range l.length)=i:=fstI_at (by simpa using hlt') (fun j hj=>by simpa using hno j hj) (by simp [flB];exact h1)
    rw [e]
    conv=>whnf
    exact ⟨rfl,trivial⟩
   ·conv=>whnf
    refine sd_d (by omega) ?_
    conv=>whnf
    refine ⟨i+1,⟨by omega,fun j hj=> ?_⟩,by omega, ?_⟩
    ·by_cases hji:j=i
     ·subst hji;exact decide_eq_false h1
     ·exact hno j (by omega)
    rw [Int.natCast_succ]
    refine weak_dead 0 rfl ?_
    refine weak_r ?_ ?_<;>repeat' (first|exact trivial|exact rfl|apply And.intro)
  ·have:i=l.length:=by omega
   subst this
   rw [fstI_no (fun j hj=>by simpa using hno j (by simpa using hj))]
   conv=>whnf
   exact ⟨rfl,trivial⟩
def kf(l:List P2):Nat→Nat
 |0=>0
 |i+1=>if cmP (ix l i) (ix l (kf l i))<0 then i else kf l i
theorem kf_le(l:List P2): ∀i,kf l i≤i
 |0=>Nat.le_refl _
 |i+1=>by
  unfold kf;split
  ·omega
  ·have:=kf_le l i;omega
theorem first_c(l:List P2){n:Nat}(hl: ∀p∈l,BP n p)(hn:n<10000000)(hlen:l.length≤100000):Fun Tryz.prog 207 [.l (pL l)] [i64 (kf l l.length)] :=by
 have hll:(pL l).length=l.length:=by simp
 refine fun_of_go (fun t=>t==5) mixed tOk Tryz.func207 rfl rfl ?_
 conv=>whnf
 refine loop_intro (fun t=>t==5) (fun i:Nat=>⟨fr 23 [(0,.d (.l (pL l))),(3,.d (i64 (kf l i))),(6,.d (.l (pL l))),(7,.d (i64 (pL l).length)),(8,.d (i64 i))], []⟩) (fun i=>i≤l.length) (fun i=>l.length-i) 0 mixed tOk (by omega) ?_ ?_
 ·refine weak_r ?_ ?_<;>repeat' (first|exact trivial|exact rfl|apply And.intro)
 ·intro i hi
  conv=>whnf
  refine cond_d (fun hlt=> ?_) (fun hge=> ?_)
  ·have hlt':i<l.length:=by omega
   have h0:0<l.length:=by omega
   have hk:=kf_le l i
   have m1:=(hl _ (ix_mem h0 (k:=i))).q (by omega)
   have m2:=(hl _ (ix_mem h0 (k:=kf l i))).q (by omega)
   conv=>whnf
   refine idx_intro (pD (ix l i)) (ix_at hlt') (by omega) (pL_uni l) ?_
   conv=>whnf
   refine idx_intro (pD (ix l (kf l i))) (ix_at (by omega)) (by omega) (pL_uni l) ?_
   conv=>whnf
   refine callv_data (vcmp_c m1.1 m1.2 m2.1 m2.2) ?_
   conv=>whnf
   refine safe_intro (by kernel_rfl) ?_
   conv=>whnf
   refine cond_d (fun h1=> ?_) (fun h1=> ?_)
   ·have e:kf l (i+1)=i:=by unfold kf;rw [if_pos h1]
    conv=>whnf
    refine sd_d (by omega) ?_
    conv=>whnf
    refine ⟨i+1,by omega,by omega, ?_⟩
    rw [e,Int.natCast_succ]
    refine weak_dead 0 rfl ?_
    refine weak_r ?_ ?_<;>repeat' (first|exact trivial|exact rfl|apply And.intro)
   ·have e:kf l (i+1)=kf l i:=by conv=>lhs;unfold kf;rw [if_neg h1]
    conv=>whnf
    refine sd_d (by omega) ?_
    conv=>whnf
    refine ⟨i+1,by omega,by omega, ?_⟩
    rw [e,Int.natCast_succ]
    refine weak_dead 0 rfl ?_
    refine weak_r ?_ ?_<;>repeat' (first|exact trivial|exact rfl|apply And.intro)
  ·have:i=l.length:=by omega
   subst this
   conv=>whnf
   exact ⟨rfl,trivial⟩
end Go.Nv
end
