import Derived.Test.YtlmmifgminkdkaaGreatNxC3
import Derived.Test.YtlmmifgminkdkaaGreatNxC5
import Derived.Test.YtlmmifgminkdkaaGreatNxP1
import Derived.Test.YtlmmifgminkdkaaGreatNxN6
set_option linter.all false
set_option maxRecDepth 100000
section
namespace Go.Nv
open Go.Proofs Nw
def bdC(c:Int):Bool:=decide ((c<97\/122<c)/\(c<48\/57<c)/\c≠95)
theorem qrN{c:Int}(h1:c<97\/122<c)(h2:c<48\/57<c):bz (c !=95)=bdC c:=by
 rw [qaH,bdC]
 by_cases e:c=95
 ·subst e;decide
 ·rw [decide_eq_true ⟨h1,h2,e⟩];simpa using e
theorem qxl{c:Int}(h: ¬((c<97\/122<c)/\(c<48\/57<c))):false=bdC c:=by
 rw [bdC,decide_eq_false (fun k=>h ⟨k.1,k.2.1⟩)]
theorem qAn(c:Int):Fun Tryz.prog 196 [.v (.int .u8 c)] [.v (.bool (bdC c))] :=by
 refine qad (fun t=>false) mixed tOk Tryz.func196 rfl rfl ?_
 conv=>whnf
 refine qaf (fun h1=> ?_) (fun h1=> ?_)
 ·conv=>whnf
  refine qaf (fun h2=> ?_) (fun h2=> ?_)
  ·conv=>whnf
   refine ⟨?_,trivial⟩
   conv=>whnf
   exact qrN (by omega) (by omega)
  ·conv=>whnf
   refine qaf (fun h3=> ?_) (fun h3=> ?_)
   ·conv=>whnf
    refine ⟨?_,trivial⟩
    conv=>whnf
    exact qrN (by omega) (by omega)
   ·conv=>whnf
    refine ⟨?_,trivial⟩
    conv=>whnf
    exact qxl (by omega)
 ·conv=>whnf
  refine qaf (fun h2=> ?_) (fun h2=> ?_)
  ·conv=>whnf
   refine qaf (fun h3=> ?_) (fun h3=> ?_)
   ·conv=>whnf
    refine ⟨?_,trivial⟩
    conv=>whnf
    exact qrN (by omega) (by omega)
   ·conv=>whnf
    refine qaf (fun h4=> ?_) (fun h4=> ?_)
    ·conv=>whnf
     refine ⟨?_,trivial⟩
     conv=>whnf
     exact qrN (by omega) (by omega)
    ·conv=>whnf
     refine ⟨?_,trivial⟩
     conv=>whnf
     exact qxl (by omega)
  ·conv=>whnf
   refine ⟨?_,trivial⟩
   conv=>whnf
   exact qxl (by omega)
noncomputable def c8D(n:UInt8):D:= .v (.int .u8 n.toNat)
theorem qgd{x y u v:Rat}{n:Nat}(hx:Bd n x)(hy:Bd n y)(hu:Bd n u)(hv:Bd n v)(hn:n<10000000000):Fun Tryz.prog 116 [ptD x y,ptD u v] [qas (x*v-y*u)] :=by
 refine qad (fun t=>t==4||t==5) mixed tOk Tryz.func116 rfl rfl ?_
 conv=>whnf
 refine qaa rfl rfl (qmG (qsv (.mk hx (by omega)) (.mk hv (by omega))) (qsv (.mk hy (by omega)) (.mk hu (by omega)))) ?_
 conv=>whnf
 refine qaa rfl rfl (qsX (.mk (hx.mul hv) (by omega)) (.mk (hy.mul hu) (by omega))) ?_
 conv=>whnf
 refine ⟨?_,trivial⟩
 conv=>whnf
 exact ⟨rfl,rfl,rfl,trivial⟩
@[irreducible] def orI(a b c:P2):Int:=qfQ (orQ a b c)
theorem qfp{x y u v z w:Rat}{n:Nat}(hx:Bd n x)(hy:Bd n y)(hu:Bd n u)(hv:Bd n v)(hz:Bd n z)(hw:Bd n w)(hn:n<1000000000):
  Fun Tryz.prog 111 [ptD x y,ptD u v,ptD z w] [i64 (orI (x,y) (u,v) (z,w))] :=by
 have e:orI (x,y) (u,v) (z,w)=qfQ ((u-x)*(w-y)-(v-y)*(z-x)):=by unfold orI orQ;rfl
 rw [e]
 refine qad (fun t=>false) mixed tOk Tryz.func111 rfl rfl ?_
 conv=>whnf
 refine qab (qk6 (.mk hu (by omega)) (.mk hv (by omega)) (.mk hx (by omega)) (.mk hy (by omega))) ?_
 conv=>whnf
 refine qab (qk6 (.mk hz (by omega)) (.mk hw (by omega)) (.mk hx (by omega)) (.mk hy (by omega))) ?_
 conv=>whnf
 refine qab (qgd (hu.sub hx) (hv.sub hy) (hz.sub hx) (hw.sub hy) (by omega)) ?_
 conv=>whnf
 refine qab (qim (.mk (((hu.sub hx).mul (hw.sub hy)).sub ((hv.sub hy).mul (hz.sub hx))) (by omega))) ?_
 conv=>whnf
 refine qac (by kernel_rfl) ?_
 conv=>whnf
 refine ⟨?_,trivial⟩
 conv=>whnf
@[irreducible] def cmP(p q:P2):Int:=if qdk p.1 q.1=0 then qdk p.2 q.2 else qdk p.1 q.1
theorem qd2{x y u v:Rat}(hx:Q x)(hy:Q y)(hu:Q u)(hv:Q v):Fun Tryz.prog 108 [ptD x y,ptD u v] [i64 (cmP (x,y) (u,v))] :=by
 have:=qin hx hy hu hv
 unfold cmP;exact this
theorem qzL:ptD 0 0= .a [.v (.bool false),.v (.string emp),.v (.string emp),.v (.bool false),.v (.string emp),.v (.string emp)] :=by
 unfold ptD;rw [qdn,qdp,qds]
theorem Q.add0{p:Rat}:p+0=p:=by grind
theorem qmu{x y:Rat}(hx:Q x)(hy:Q y):Fun Tryz.prog 354 [ptD x y] [ptD x y] :=by
 have h0:Q 0:= .mk (qd3 0 (n:=0) (by simp)) (by omega)
 have h:=qrr hx hy h0 h0
 rw [Q.add0,Q.add0] at h
 refine qad (fun t=>t==2) mixed tOk Tryz.func354 rfl rfl ?_
 conv=>whnf
 refine qa4 rfl rfl h ?_ ?_
 ·rw [qzL];rfl
 ·conv=>whnf
  refine ⟨?_,trivial⟩
  conv=>whnf
  exact ⟨rfl,rfl,rfl,rfl,rfl,rfl,trivial⟩
theorem qrR(p q:Rat):qdk p q= -1\/qdk p q=0\/qdk p q=1:=by
 rw [qed];unfold qte;split
 ·exact .inl rfl
 ·split
  ·exact .inr (.inr rfl)
  ·exact .inr (.inl rfl)
theorem qei(p q:P2):cmP p q= -1\/cmP p q=0\/cmP p q=1:=by
 unfold cmP;split<;>exact qrR _ _
@[irreducible] def qox(a b p:P2):Bool:=decide (orI a b p=0)&&(decide (0<=cmP a p*cmP p b)&&(decide (cmP a b≠0)||decide (cmP a p=0)))
theorem qpl{x y u v z w:Rat}{n:Nat}(hx:Bd n x)(hy:Bd n y)(hu:Bd n u)(hv:Bd n v)(hz:Bd n z)(hw:Bd n w)(hn:n<1000000000):
  Fun Tryz.prog 243 [ptD x y,ptD u v,ptD z w] [.v (.bool (qox (x,y) (u,v) (z,w)))] :=by
 have qx:Q x:= .mk hx (by omega)
 have qy:Q y:= .mk hy (by omega)
 have qu:Q u:= .mk hu (by omega)
 have qv:Q v:= .mk hv (by omega)
 have qz:Q z:= .mk hz (by omega)
 have qw:Q w:= .mk hw (by omega)
 have r1:=qei (x,y) (z,w)
 have r2:=qei (z,w) (u,v)
 have hm:cmP (x,y) (z,w)*cmP (z,w) (u,v)<=1/\ -1<=cmP (x,y) (z,w)*cmP (z,w) (u,v):=by
  rcases r1 with h|h|h<;>rcases r2 with h'|h'|h'<;>rw [h,h'] <;>decide
 refine qad (fun t=>false) mixed tOk Tryz.func243 rfl rfl ?_
 conv=>whnf
 refine qaa rfl rfl (qfp hx hy hu hv hz hw hn) ?_
 conv=>whnf
 refine qav (fun h=> ?_) (fun h=> ?_)
 ·conv=>whnf
  refine ⟨?_,trivial⟩
  conv=>whnf
  unfold qox;rw [decide_eq_false h];rfl
 ·conv=>whnf
  refine qab (qd2 qx qy qz qw) ?_
  conv=>whnf
  refine qab (qd2 qz qw qu qv) ?_
  conv=>whnf
  refine qak (by omega) ?_
  conv=>whnf
  refine qaf (fun h1=> ?_) (fun h1=> ?_)
  ·conv=>whnf
   refine qab (qd2 qx qy qu qv) ?_
   refine qav (fun h2=> ?_) (fun h2=> ?_)
   ·conv=>whnf
    refine qac (by kernel_rfl) ?_
    conv=>whnf
    refine ⟨?_,trivial⟩
    conv=>whnf
    unfold qox;rw [decide_eq_true h,decide_eq_true h1,decide_eq_true h2];rfl
   ·conv=>whnf
    refine qab (qd2 qx qy qz qw) ?_
    conv=>whnf
    refine qac (by kernel_rfl) ?_
    conv=>whnf
    refine ⟨?_,trivial⟩
    conv=>whnf
    rw [qaH]
    unfold qox;rw [decide_eq_true h,decide_eq_true h1,decide_eq_false (fun hh=>hh h2)];rfl
  ·conv=>whnf
   refine qac (by kernel_rfl) ?_
   conv=>whnf
   refine ⟨?_,trivial⟩
   conv=>whnf
   unfold qox;rw [decide_eq_true h,decide_eq_false h1];rfl
theorem qxW{x y u v:Rat}(hx:Q x)(hy:Q y)(hu:Q u)(hv:Q v):Fun Tryz.prog 411 [quD x y u v] [ptD (u-x) (v-y)] :=by
 refine qad (fun t=>t==2) mixed tOk Tryz.func411 rfl rfl ?_
 conv=>whnf
 refine qaa rfl rfl (qk6 hu hv hx hy) ?_
 conv=>whnf
 refine ⟨?_,trivial⟩
 conv=>whnf
 exact ⟨rfl,rfl,rfl,rfl,rfl,rfl,trivial⟩
@[irreducible] def unB(t:Rat):Bool:=decide (0<=qfQ t)&&decide (qdk t 1<=0)
theorem qtz{t:Rat}(ht:Q t):Fun Tryz.prog 412 [qas t] [.v (.bool (unB t))] :=by
 have h11:=qDV 1 (by omega)
 rw [Rat.intCast_one] at h11
 refine qad (fun t=>false) mixed tOk Tryz.func412 rfl rfl ?_
 conv=>whnf
 refine qab (qim ht) ?_
 refine qaf (fun h1=> ?_) (fun h1=> ?_)
 ·conv=>whnf
  refine qab h11 ?_
  conv=>whnf
  refine qab (qs4 ht (.mk (qd3 1 (n:=0) (by simp)) (by omega))) ?_
  conv=>whnf
  refine qac (by kernel_rfl) ?_
  conv=>whnf
  refine ⟨?_,trivial⟩
  conv=>whnf
  rw [qaH]
  unfold unB;rw [decide_eq_true h1];rfl
 ·conv=>whnf
  refine qac (by kernel_rfl) ?_
  conv=>whnf
  refine ⟨?_,trivial⟩
  conv=>whnf
  unfold unB;rw [decide_eq_false h1];rfl
abbrev pD(p:P2):D:=ptD p.1 p.2
def QP(p:P2):Prop:=Q p.1/\Q p.2
def qfd(p q:P2):P2:=if cmP p q<0 then q else p
def qfV(p q:P2):P2:=if cmP p q<0 then p else q
theorem qql{p q:P2}(hp:QP p)(hq:QP q):Fun Tryz.prog 413 [pD p,pD q] [pD (qfd p q)] :=by
 obtain ⟨x,y⟩:=p
 obtain ⟨u,v⟩:=q
 refine qad (fun t=>t==4) mixed tOk Tryz.func413 rfl rfl ?_
 conv=>whnf
 refine qaa rfl rfl (qd2 hp.1 hp.2 hq.1 hq.2) ?_
 conv=>whnf
 refine qaf (fun h1=> ?_) (fun h1=> ?_)
 ·rw [show qfd (x,y) (u,v)=(u,v) by unfold qfd;rw [if_pos h1]]
  conv=>whnf
  refine ⟨?_,trivial⟩
  conv=>whnf
  exact ⟨rfl,rfl,rfl,rfl,rfl,rfl,trivial⟩
 ·rw [show qfd (x,y) (u,v)=(x,y) by unfold qfd;rw [if_neg h1]]
  conv=>whnf
  refine ⟨?_,trivial⟩
  conv=>whnf
  exact ⟨rfl,rfl,rfl,rfl,rfl,rfl,trivial⟩
theorem qtd{p q:P2}(hp:QP p)(hq:QP q):Fun Tryz.prog 414 [pD p,pD q] [pD (qfV p q)] :=by
 obtain ⟨x,y⟩:=p
 obtain ⟨u,v⟩:=q
 refine qad (fun t=>t==4) mixed tOk Tryz.func414 rfl rfl ?_
 conv=>whnf
 refine qaa rfl rfl (qd2 hp.1 hp.2 hq.1 hq.2) ?_
 conv=>whnf
 refine qaf (fun h1=> ?_) (fun h1=> ?_)
 ·rw [show qfV (x,y) (u,v)=(x,y) by unfold qfV;rw [if_pos h1]]
  conv=>whnf
  refine ⟨?_,trivial⟩
  conv=>whnf
  exact ⟨rfl,rfl,rfl,rfl,rfl,rfl,trivial⟩
 ·rw [show qfV (x,y) (u,v)=(u,v) by unfold qfV;rw [if_neg h1]]
  conv=>whnf
  refine ⟨?_,trivial⟩
  conv=>whnf
  exact ⟨rfl,rfl,rfl,rfl,rfl,rfl,trivial⟩
abbrev sD(a b:P2):D:=quD a.1 a.2 b.1 b.2
def qaW(a b:P2):P2×P2:=if 0<cmP a b then (b,a) else (a,b)
theorem qq7{a b:P2}(ha:QP a)(hb:QP b):Fun Tryz.prog 287 [sD a b] [sD (qaW a b).1 (qaW a b).2] :=by
 obtain ⟨x,y⟩:=a
 obtain ⟨u,v⟩:=b
 refine qad (fun t=>t==2||t==3||t==4) mixed tOk Tryz.func287 rfl rfl ?_
 conv=>whnf
 refine qab (qmu ha.1 ha.2) ?_
 conv=>whnf
 refine qab (qmu hb.1 hb.2) ?_
 conv=>whnf
 refine qac (by kernel_rfl) ?_
 conv=>whnf
 refine qaa rfl rfl (qd2 ha.1 ha.2 hb.1 hb.2) ?_
 conv=>whnf
 refine qaf (fun h1=> ?_) (fun h1=> ?_)
 ·rw [show qaW (x,y) (u,v)=((u,v),(x,y)) by unfold qaW;rw [if_pos h1]]
  conv=>whnf
  refine ⟨?_,trivial⟩
  conv=>whnf
  exact ⟨rfl,rfl,rfl,rfl,rfl,rfl,rfl,rfl,rfl,rfl,rfl,rfl,trivial⟩
 ·rw [show qaW (x,y) (u,v)=((x,y),(u,v)) by unfold qaW;rw [if_neg h1]]
  conv=>whnf
  refine ⟨?_,trivial⟩
  conv=>whnf
  exact ⟨rfl,rfl,rfl,rfl,rfl,rfl,rfl,rfl,rfl,rfl,rfl,rfl,trivial⟩
theorem qvj{x y u v x' y' u' v':Rat}(h1:Q x)(h2:Q y)(h3:Q u)(h4:Q v)(k1:Q x')(k2:Q y')(k3:Q u')(k4:Q v'):
  Fun Tryz.prog 344 [quD x y u v,quD x' y' u' v'] [.v (.bool (decide (x=u/\y=v)||decide (x'=u'/\y'=v')))] :=by
 refine qad (fun t=>false) mixed tOk Tryz.func344 rfl rfl ?_
 conv=>whnf
 refine qaa rfl rfl (qnz h1 h2 h3 h4) ?_
 conv=>whnf
 refine qav (fun h=> ?_) (fun h=> ?_)
 ·conv=>whnf
  refine ⟨?_,trivial⟩
  conv=>whnf
  have:x=u/\y=v:=by
   by_cases hh:x=u/\y=v
   ·exact hh
   ·exact absurd (by unfold sgE;rw [if_neg hh]) h
  rw [decide_eq_true this];rfl
 ·conv=>whnf
  refine qaa rfl rfl (qnz k1 k2 k3 k4) ?_
  conv=>whnf
  refine ⟨?_,trivial⟩
  conv=>whnf
  rw [qaH]
  have e1: ¬(x=u/\y=v):=fun hh=>by unfold sgE at h;rw [if_pos hh] at h;exact absurd h (by decide)
  rw [decide_eq_false e1]
  unfold sgE
  by_cases hh:x'=u'/\y'=v'
  ·rw [if_pos hh,decide_eq_true hh];rfl
  ·rw [if_neg hh,decide_eq_false hh];rfl
def su(p q:P2):P2:=(p.1-q.1,p.2-q.2)
def crQ(p q:P2):Rat:=p.1*q.2-p.2*q.1
@[irreducible] def mtQ(a b c d:P2):Option (P2×P2):=
 if crQ (su b a) (su d c)=0 then
  (if crQ (su b a) (su c a)=0 then
   (if 0<cmP (qfd (qaW a b).1 (qaW c d).1) (qfV (qaW a b).2 (qaW c d).2) then none else some (qfd (qaW a b).1 (qaW c d).1,qfV (qaW a b).2 (qaW c d).2))
  else none)
 else if unB (crQ (su c a) (su d c)/crQ (su b a) (su d c))&&unB (crQ (su c a) (su b a)/crQ (su b a) (su d c)) then
  some (lin a b (crQ (su c a) (su d c)/crQ (su b a) (su d c)),lin a b (crQ (su c a) (su d c)/crQ (su b a) (su d c)))
 else none
def mtP(o:Option (P2×P2)):P2×P2:=o.getD ((0,0),(0,0))
abbrev mtV(o:Option (P2×P2)):D:=sD (mtP o).1 (mtP o).2
theorem qC3:quD 0 0 0 0= .a [.v (.bool false),.v (.string emp),.v (.string emp),.v (.bool false),.v (.string emp),.v (.string emp),.v (.bool false),.v (.string emp),.v (.string emp),.v (.bool false),.v (.string emp),.v (.string emp)] :=by
 unfold quD;rw [qdn,qdp,qds]
theorem qsU:mtV none= .a [.v (.bool false),.v (.string emp),.v (.string emp),.v (.bool false),.v (.string emp),.v (.string emp),.v (.bool false),.v (.string emp),.v (.string emp),.v (.bool false),.v (.string emp),.v (.string emp)] :=qC3
def BP(n:Nat)(p:P2):Prop:=Bd n p.1/\Bd n p.2
theorem BP.q{n:Nat}{p:P2}(h:BP n p)(hn:n<90000000000):QP p:=⟨.mk h.1 hn,.mk h.2 hn⟩
theorem BP.su{n:Nat}{p q:P2}(h:BP n p)(k:BP n q):BP (2*n+1) (su p q):=⟨(h.1.sub k.1).mono (by omega),(h.2.sub k.2).mono (by omega)⟩
theorem BP.cr{n:Nat}{p q:P2}(h:BP n p)(k:BP n q):Bd (4*n+1) (crQ p q):=((h.1.mul k.2).sub (h.2.mul k.1)).mono (by omega)
theorem qco{p:Rat}:qfQ p=0↔p=0:=by rw [qc8];exact qrn
theorem qiB{P:P2->Prop}{a b:P2}(ha:P a)(hb:P b):P (qaW a b).1/\P (qaW a b).2:=by
 unfold qaW;split
 ·exact ⟨hb,ha⟩
 ·exact ⟨ha,hb⟩
theorem qqA{P:P2->Prop}{a b:P2}(ha:P a)(hb:P b):P (qfd a b):=by unfold qfd;split<;>assumption
theorem quh{P:P2->Prop}{a b:P2}(ha:P a)(hb:P b):P (qfV a b):=by unfold qfV;split<;>assumption
theorem quu{b:Bool}(h:qoU b=true):b=false:=by cases b<;>simp_all [qoU]
theorem qt1{b:Bool}(h:qoU b=false):b=true:=by cases b<;>simp_all [qoU]
theorem qzV{a b c d:P2}{n:Nat}(ha:BP n a)(hb:BP n b)(hc:BP n c)(hd:BP n d)(hn:n<100000000):
  Fun Tryz.prog 345 [sD a b,sD c d] [mtV (mtQ a b c d),.v (.bool (mtQ a b c d).isSome)] :=by
 have du:=hb.su ha
 have dv:=hd.su hc
 have dw:=hc.su ha
 have bD:=du.cr dv
 have bx:=dw.cr dv
 have by':=dw.cr du
 have bz':=du.cr dw
 have qa:=ha.q (by omega)
 have qb:=hb.q (by omega)
 have qc:=hc.q (by omega)
 have qd:=hd.q (by omega)
 refine qad (fun t=>t==2||t==3||t==4||t==6||t==7||t==8||t==9||t==10||t==12||t==14||t==15||t==16) mixed tOk Tryz.func345 rfl rfl ?_
 conv=>whnf
 refine qab (qxW qa.1 qa.2 qb.1 qb.2) ?_
 conv=>whnf
 refine qab (qxW qc.1 qc.2 qd.1 qd.2) ?_
 conv=>whnf
 refine qab (qk6 qc.1 qc.2 qa.1 qa.2) ?_
 conv=>whnf
 refine qac (by kernel_rfl) ?_
 conv=>whnf
 refine qaa rfl rfl (qgd du.1 du.2 dv.1 dv.2 (by omega)) ?_
 conv=>whnf
 refine qaa rfl rfl (qim (.mk bD (by omega))) ?_
 conv=>whnf
 refine qav (fun h=> ?_) (fun h=> ?_)
 ·have h0: ¬crQ (su b a) (su d c)=0:=fun hh=>h (qco.2 hh)
  conv=>whnf
  refine qab (qgd dw.1 dw.2 dv.1 dv.2 (by omega)) ?_
  conv=>whnf
  refine qab (qvJ (.mk bx (by omega)) (.mk bD (by omega))) ?_
  conv=>whnf
  refine qac (by kernel_rfl) ?_
  conv=>whnf
  refine qab (qgd dw.1 dw.2 du.1 du.2 (by omega)) ?_
  conv=>whnf
  refine qab (qvJ (.mk by' (by omega)) (.mk bD (by omega))) ?_
  conv=>whnf
  refine qac (by kernel_rfl) ?_
  conv=>whnf
  have bX:Bd (2*(4*(2*n+1)+1)) (crQ (su c a) (su d c)/crQ (su b a) (su d c)):=(bx.div bD).mono (by omega)
  have bY:Bd (2*(4*(2*n+1)+1)) (crQ (su c a) (su b a)/crQ (su b a) (su d c)):=(by'.div bD).mono (by omega)
  refine qaa rfl rfl (qtz (.mk bX (by omega))) ?_
  conv=>whnf
  refine qal (fun h1=> ?_) (fun h1=> ?_)
  ·have h1':unB (crQ (su c a) (su d c)/crQ (su b a) (su d c))=false:=quu h1
   have e:mtQ a b c d=none:=by unfold mtQ;rw [if_neg h0,h1'];rfl
   rw [e]
   conv=>whnf
   refine ⟨?_, ?_,trivial⟩
   ·rw [qsU]
    conv=>whnf
    exact ⟨rfl,rfl,rfl,rfl,rfl,rfl,rfl,rfl,rfl,rfl,rfl,rfl,trivial⟩
   ·conv=>whnf
    rfl
  ·have h1':unB (crQ (su c a) (su d c)/crQ (su b a) (su d c))=true:=qt1 h1
   conv=>whnf
   refine qaa rfl rfl (qtz (.mk bY (by omega))) ?_
   conv=>whnf
   refine qal (fun h2=> ?_) (fun h2=> ?_)
   ·have h2':unB (crQ (su c a) (su b a)/crQ (su b a) (su d c))=false:=quu h2
    have e:mtQ a b c d=none:=by unfold mtQ;rw [if_neg h0,h1',h2'];rfl
    rw [e]
    conv=>whnf
    refine ⟨?_, ?_,trivial⟩
    ·rw [qsU]
     conv=>whnf
     exact ⟨rfl,rfl,rfl,rfl,rfl,rfl,rfl,rfl,rfl,rfl,rfl,rfl,trivial⟩
    ·conv=>whnf
     rfl
   ·have h2':unB (crQ (su c a) (su b a)/crQ (su b a) (su d c))=true:=qt1 h2
    have e:mtQ a b c d=some (lin a b (crQ (su c a) (su d c)/crQ (su b a) (su d c)),lin a b (crQ (su c a) (su d c)/crQ (su b a) (su d c))):=by
     unfold mtQ;rw [if_neg h0,h1',h2'];rfl
    rw [e]
    conv=>whnf
    refine qaa rfl rfl (qBH ha.1 ha.2 hb.1 hb.2 bX (by omega) (by omega)) ?_
    conv=>whnf
    refine ⟨?_, ?_,trivial⟩
    ·conv=>whnf
     exact ⟨rfl,rfl,rfl,rfl,rfl,rfl,rfl,rfl,rfl,rfl,rfl,rfl,trivial⟩
    ·conv=>whnf
     rfl
 ·have h0:crQ (su b a) (su d c)=0:=qco.1 h
  conv=>whnf
  refine qaa rfl rfl (qgd du.1 du.2 dw.1 dw.2 (by omega)) ?_
  conv=>whnf
  refine qaa rfl rfl (qim (.mk bz' (by omega))) ?_
  conv=>whnf
  refine qav (fun h1=> ?_) (fun h1=> ?_)
  ·have h1': ¬crQ (su b a) (su c a)=0:=fun hh=>h1 (qco.2 hh)
   have e:mtQ a b c d=none:=by unfold mtQ;rw [if_pos h0,if_neg h1']
   rw [e]
   conv=>whnf
   refine ⟨?_, ?_,trivial⟩
   ·rw [qsU]
    conv=>whnf
    exact ⟨rfl,rfl,rfl,rfl,rfl,rfl,rfl,rfl,rfl,rfl,rfl,rfl,trivial⟩
   ·conv=>whnf
    rfl
  ·have h1':crQ (su b a) (su c a)=0:=qco.1 h1
   have o1:=qiB (P:=QP) qa qb
   have o2:=qiB (P:=QP) qc qd
   have g1:=qqA (P:=QP) o1.1 o2.1
   have g2:=quh (P:=QP) o1.2 o2.2
   conv=>whnf
   refine qab (qq7 qa qb) ?_
   conv=>whnf
   refine qab (qq7 qc qd) ?_
   conv=>whnf
   refine qac (by kernel_rfl) ?_
   conv=>whnf
   refine qab (qql o1.1 o2.1) ?_
   conv=>whnf
   refine qab (qtd o1.2 o2.2) ?_
   conv=>whnf
   refine qac (by kernel_rfl) ?_
   conv=>whnf
   refine qaa rfl rfl (qd2 g1.1 g1.2 g2.1 g2.2) ?_
   conv=>whnf
   refine qaf (fun h2=> ?_) (fun h2=> ?_)
   ·have e:mtQ a b c d=none:=by unfold mtQ;rw [if_pos h0,if_pos h1',if_pos h2]
    rw [e]
    conv=>whnf
    refine ⟨?_, ?_,trivial⟩
    ·rw [qsU]
     conv=>whnf
     exact ⟨rfl,rfl,rfl,rfl,rfl,rfl,rfl,rfl,rfl,rfl,rfl,rfl,trivial⟩
    ·conv=>whnf
     rfl
   ·have e:mtQ a b c d=some (qfd (qaW a b).1 (qaW c d).1,qfV (qaW a b).2 (qaW c d).2):=by unfold mtQ;rw [if_pos h0,if_pos h1',if_neg h2]
    rw [e]
    conv=>whnf
    refine ⟨?_, ?_,trivial⟩
    ·conv=>whnf
     exact ⟨rfl,rfl,rfl,rfl,rfl,rfl,rfl,rfl,rfl,rfl,rfl,rfl,trivial⟩
    ·conv=>whnf
     rfl
def mtB(a b c d:P2):Bool:= !(decide (a=b)||decide (c=d))&&(mtQ a b c d).isSome
theorem qlb{a b:P2}:(a.1=b.1/\a.2=b.2)↔a=b:=⟨fun h=>Prod.ext h.1 h.2,fun h=>by rw [h];exact ⟨rfl,rfl⟩⟩
theorem qlE{a b c d:P2}{n:Nat}(ha:BP n a)(hb:BP n b)(hc:BP n c)(hd:BP n d)(hn:n<100000000):
  Fun Tryz.prog 267 [sD a b,sD c d] [mtV (if a=b\/c=d then none else mtQ a b c d),.v (.bool (mtB a b c d)),i64 (if a=b\/c=d then 12 else 0)] :=by
 have qa:=ha.q (by omega)
 have qb:=hb.q (by omega)
 have qc:=hc.q (by omega)
 have qd:=hd.q (by omega)
 refine qad (fun t=>t==4||t==7) mixed tOk Tryz.func267 rfl rfl ?_
 conv=>whnf
 refine qaa rfl rfl (qvj qa.1 qa.2 qb.1 qb.2 qc.1 qc.2 qd.1 qd.2) ?_
 conv=>whnf
 refine qal (fun h=> ?_) (fun h=> ?_)
 ·have h':a=b\/c=d:=by
   rw [Bool.or_eq_true,decide_eq_true_eq,decide_eq_true_eq,qlb,qlb] at h;exact h
  have e:mtB a b c d=false:=by
   unfold mtB
   rcases h' with h'|h'
   ·rw [decide_eq_true h'];rfl
   ·rw [decide_eq_true h',Bool.or_true];rfl
  rw [if_pos h',if_pos h',e]
  conv=>whnf
  refine ⟨?_, ?_, ?_,trivial⟩
  ·rw [qsU]
   conv=>whnf
   exact ⟨rfl,rfl,rfl,rfl,rfl,rfl,rfl,rfl,rfl,rfl,rfl,rfl,trivial⟩
  ·conv=>whnf
  ·conv=>whnf
 ·have h': ¬(a=b\/c=d):=by
   rw [Bool.or_eq_false_iff,decide_eq_false_iff_not,decide_eq_false_iff_not,qlb,qlb] at h
   rintro (hh|hh)
   ·exact h.1 hh
   ·exact h.2 hh
  have e:mtB a b c d=(mtQ a b c d).isSome:=by
   unfold mtB
   rw [decide_eq_false (fun hh=>h' (.inl hh)),decide_eq_false (fun hh=>h' (.inr hh))];rfl
  rw [if_neg h',if_neg h',e]
  conv=>whnf
  refine qaa rfl rfl (qzV ha hb hc hd hn) ?_
  conv=>whnf
  refine ⟨?_, ?_, ?_,trivial⟩
  ·conv=>whnf
   exact ⟨rfl,rfl,rfl,rfl,rfl,rfl,rfl,rfl,rfl,rfl,rfl,rfl,trivial⟩
  ·conv=>whnf
  ·conv=>whnf
abbrev pL(l:List P2):List D:=l.map pD
theorem qaz(l:List P2):Uni 6 (pL l):=by
 intro x hx
 obtain ⟨p,_,rfl⟩:=List.mem_map.1 hx
 rfl
theorem qfm{l:List P2}{i:Nat}(h:i<l.length):(pL l)[(i:Int).toNat]? =some (pD l[i]):=by simp [h]
theorem qcb(l:List P2):(pL l).length=l.length:=by simp
noncomputable def rfO(b:Option Code):Code×Code:=match b with
 |some c=>match qBl c with
  |p::_=>p
  | [] =>(.skip,.skip)
 |none=>(.skip,.skip)
theorem qgV(l:List P2):Fun Tryz.prog 115 [.l (pL l)] [.f 172 [.p 0 [.l (pL l)]]] :=by
 refine qad (fun t=>false) mixed tOk Tryz.func115 rfl rfl ?_
 conv=>whnf
 refine ⟨?_,trivial⟩
 conv=>whnf
 rfl
theorem qrC: ∀(l:List P2) (a:P2),(prs a l).length=l.length
 | [],a=>rfl
 |b::l,a=>by simp only [prs,List.length_cons,qrC l b]
theorem qbm(l:List P2):(cyc l).length=l.length:=by
 cases l with
 |nil=>rfl
 |cons a l=>simp only [cyc,qrC,List.length_append,List.length_cons,List.length_nil]
theorem qqT: ∀(l:List P2) (a:P2) (i:Nat) (h:i<l.length),(prs a l)[i]? =some ((a::l)[i]'(by simp;omega),l[i])
 |b::l,a,0,h=>rfl
 |b::l,a,i+1,h=>by
  simp only [prs,List.getElem?_cons_succ,List.getElem_cons_succ]
  exact qqT l b i (by simpa using h)
theorem qb1{i n:Nat}(h:i<n):(i+1)%n<n:=Nat.mod_lt _ (by omega)
theorem qhH{l:List P2}{i:Nat}(h:i<l.length):(cyc l)[i]'(by rw [qbm];exact h)=(l[i],l[(i+1)%l.length]'(qb1 h)):=by
 cases l with
 |nil=>simp at h
 |cons a l=>
  have e:=qqT (l++ [a]) a i (by simpa using h)
  have this:=(List.getElem?_eq_getElem (l:=cyc (a::l)) (i:=i) (by rw [qbm];exact h)).symm.trans e
  rw [Option.some.inj this]
  congr 1
  ·simp only [<-List.cons_append]
   rw [List.getElem_append_left]
  ·simp only [List.length_cons] at h ⊢
   by_cases hi:i<l.length
   ·rw [List.getElem_append_left hi]
    simp only [Nat.mod_eq_of_lt (show i+1<l.length+1 by omega),List.getElem_cons_succ]
   ·have hi':i=l.length:=by omega
    subst hi'
    simp only [Nat.mod_self,List.getElem_cons_zero]
    rw [List.getElem_append_right (by omega)]
    simp
theorem qc3{l:List P2}{i:Nat}(h:i<l.length):(cyc l).take (i+1)=(cyc l).take i++ [(l[i],l[(i+1)%l.length]'(qb1 h))] :=by
 rw [List.take_succ_eq_append_getElem (by rw [qbm];exact h),qhH h]
theorem qjz(f:P2->P2->Rat)(e:P2×P2):qbT f [e] =f e.1 e.2:=by simp only [qbT];grind
theorem qcy(a b:Nat):Int.tmod (a:Int) (b:Int)=((a%b:Nat):Int):=rfl
theorem qfY(f:P2->P2->Rat)(l:List P2):qbT f ((cyc l).take l.length)=tot f l:=by
 unfold tot;rw [List.take_of_length_le (by rw [qbm];omega)]
theorem qj8{l:List P2}{i:Nat}(h:i<l.length):(pL l)[(Int.tmod ((i:Int)+1) ((pL l).length:Int)).toNat]? =some (pD (l[(i+1)%l.length]'(qb1 h))):=by
 rw [qcb,show ((i:Int)+1)=((i+1:Nat):Int) from rfl,qcy,Int.toNat_natCast,List.getElem?_map,List.getElem?_eq_getElem (qb1 h)];rfl
theorem qpT(a b:Nat):0<=Int.tmod ((a:Int)+1) (b:Int):=by
 rw [show ((a:Int)+1)=((a+1:Nat):Int) from rfl,qcy];omega
noncomputable def qrv(l:List P2)(i:Nat):St:=
 ⟨fr 25 [(0,.own 2 0),(1,.d (.p 0 [.l (pL l)])),(5,.d (.l (pL l))),(6,.d (i64 (pL l).length)),(7,.d (i64 i))],
  [.box 23 [.d (.v (.bool false)),.d (.v (.string emp)),.d (.v (.string emp))],
  .box 23 [.d (.v (.bool (qel (qbT crQ ((cyc l).take i))))),.d (.v (.string (qeC (qbT crQ ((cyc l).take i))))),.d (.v (.string (qeB (qbT crQ ((cyc l).take i)))))],
  .loop .ready none #[10,11] (rfO Tryz.f51.body).1 (rfO Tryz.f51.body).2 (fr 24 [(2,.ptr 0 0 0),(3,.ptr 1 0 0)])]⟩
theorem qdL{l:List P2}{n:Nat}(hl: ∀p∈l,BP n p): ∀i,i<=l.length->Bd (i*(4*n+2)) (qbT crQ ((cyc l).take i))
 |0,_=>by simp only [Nat.zero_mul,List.take_zero,qbT];exact qd3 0 (by simp)
 |i+1,h=>by
  rw [qc3 h,qcK,qjz]
  have h1:=qdL hl i (by omega)
  have h2:=(hl l[i] (List.getElem_mem _)).cr (hl (l[(i+1)%l.length]'(qb1 h)) (List.getElem_mem _))
  exact (h1.add h2).mono (by rw [Nat.add_mul];omega)
theorem qm3(l:List P2){n:Nat}(hl: ∀p∈l,BP n p)(hn:n<1000000)(hlen:l.length<=2000):Fun Tryz.prog 51 [.l (pL l)] [qas (tot crQ l/2)] :=by
 have hmul: ∀i,i<=l.length->i*(4*n+2)<=2000*(4*1000000+2):=fun i h=>Nat.mul_le_mul (by omega) (by omega)
 refine qad (fun t=>t==2||t==3||t==4||t==5||t==6) mixed tOk Tryz.func51 rfl rfl ?_
 conv=>whnf
 refine qaa rfl rfl (qgV l) ?_
 conv=>whnf
 refine qbV (g:=172) (cap:= [.d (.p 0 [.l (pL l)])]) (fun t=>t==2||t==3||t==4||t==5||t==6) mixed tOk rfl rfl rfl rfl rfl ?_
 conv=>whnf
 refine qbX (fun t=>t==2||t==3||t==4||t==5||t==6) (fun i:Nat=>qrv l i) (fun i=>i<=l.length) (fun i=>l.length-i) 0 mixed tOk (by omega) ?_ ?_
 ·unfold qrv
  simp only [List.take_zero,qbT,qdn,qdp,qds]
  refine qbD ?_ ?_<;>repeat' (first|exact trivial|exact rfl|apply And.intro)
 ·intro i hi
  conv=>whnf
  refine qaf (fun hlt=> ?_) (fun hge=> ?_)
  ·have hlt':i<l.length:=by rw [qcb] at hlt;omega
   have hm:=qb1 hlt'
   conv=>whnf
   refine qae (pD l[i]) (qfm hlt') (by omega) (qaz l) ?_
   conv=>whnf
   refine qd6 10 _ (fun t=>t==2||t==3||t==4||t==5||t==6) (.tmp 12) [.tmp 13,.tmp 21] mixed tOk rfl rfl ⟨_,rfl⟩ (by kernel_rfl) ?_
   conv=>whnf
   refine qak (by omega) ?_
   conv=>whnf
   refine qak (by omega) ?_
   conv=>whnf
   refine qae (pD (l[(i+1)%l.length]'hm)) (qj8 hlt') (qpT _ _) (qaz l) ?_
   conv=>whnf
   refine qac (by kernel_rfl) ?_
   conv=>whnf
   refine qbI (fun t=>t==2||t==3||t==4||t==5||t==6) mixed tOk rfl rfl rfl ?_
   conv=>whnf
   have b1:=hl l[i] (List.getElem_mem _)
   have b2:=hl (l[(i+1)%l.length]'hm) (List.getElem_mem _)
   have b0:=qdL hl i hi
   have hmi:=hmul _ hi
   refine qy0 (fun t=>t==2||t==3||t==4||t==5||t==6) mixed tOk ?_
   conv=>whnf
   refine qab (qgd b1.1 b1.2 b2.1 b2.2 (by omega)) ?_
   conv=>whnf
   refine qab (qrV (.mk b0 (by omega)) (.mk (b1.cr b2) (by omega))) ?_
   conv=>whnf
   refine qac (by kernel_rfl) ?_
   conv=>whnf
   refine qac (by kernel_rfl) ?_
   conv=>whnf
   refine qak (by omega) ?_
   conv=>whnf
   refine ⟨i+1,by omega,by omega, ?_⟩
   unfold qrv
   rw [qc3 hlt',qcK,qjz,Int.natCast_succ]
   refine qaj 3 rfl (qaj 4 rfl (qaj 5 rfl (qaj 6 rfl ?_)))
   refine qbD ?_ ?_<;>repeat' (first|exact trivial|exact rfl|apply And.intro)
  ·have:i=l.length:=by rw [qcb] at hge;omega
   subst this
   conv=>whnf
   refine qab (qDV 2 (by omega)) ?_
   conv=>whnf
   refine qab (qvJ (.mk (qdL hl _ hi) (by have:=hmul _ hi;omega)) (.mk (qd3 2 (n:=1) (by decide)) (by omega))) ?_
   conv=>whnf
   refine qac (by kernel_rfl) ?_
   conv=>whnf
   refine ⟨?_,trivial⟩
   conv=>whnf
   rw [qfY]
   exact ⟨rfl,rfl,rfl,trivial⟩
abbrev eL(l:List (P2×P2)):List D:=l.map fun e=>sD e.1 e.2
theorem qeF(l:List (P2×P2)):Uni 12 (eL l):=by
 intro x hx
 obtain ⟨p,_,rfl⟩:=List.mem_map.1 hx
 rfl
noncomputable def qyB(l:List P2)(i:Nat):St:=
 ⟨fr 25 [(0,.own 3 0),(1,.d (.p 0 [.l (pL l)])),(5,.d (.l (pL l))),(6,.d (i64 (pL l).length)),(7,.d (i64 i))],
  [.dead,.box 155 [.own 2 0],.row 0 214 12 160 (eL ((cyc l).take i)),
  .loop .ready none #[8,9] (rfO Tryz.f266.body).1 (rfO Tryz.f266.body).2 (fr 17 [(3,.ptr 1 0 0)])]⟩
theorem qlO(l:List P2)(hlen:l.length<=100000):Fun Tryz.prog 266 [.l (pL l)] [.l (eL (cyc l))] :=by
 refine qad (fun t=>t==3||t==4||t==5) mixed tOk Tryz.func266 rfl rfl ?_
 conv=>whnf
 refine qaa rfl rfl (qgV l) ?_
 conv=>whnf
 refine qma 1 0 214 12 160 ?_
 refine qbV (g:=172) (cap:= [.d (.p 0 [.l (pL l)])]) (fun t=>t==3||t==4||t==5) mixed tOk rfl rfl rfl rfl rfl ?_
 conv=>whnf
 refine qbX (fun t=>t==3||t==4||t==5) (fun i:Nat=>qyB l i) (fun i=>i<=l.length) (fun i=>l.length-i) 0 mixed tOk (by omega) ?_ ?_
 ·refine qaj 0 rfl ?_
  refine qbD ?_ ?_<;>repeat' (first|exact trivial|exact rfl|apply And.intro)
 ·intro i hi
  conv=>whnf
  refine qaf (fun hlt=> ?_) (fun hge=> ?_)
  ·have hlt':i<l.length:=by rw [qcb] at hlt;omega
   have hm:=qb1 hlt'
   conv=>whnf
   refine qae (pD l[i]) (qfm hlt') (by omega) (qaz l) ?_
   conv=>whnf
   refine qd6 10 _ (fun t=>t==3||t==4||t==5) (.tmp 12) [.tmp 13,.tmp 21] mixed tOk rfl rfl ⟨_,rfl⟩ (by kernel_rfl) ?_
   conv=>whnf
   refine qak (by omega) ?_
   conv=>whnf
   refine qak (by omega) ?_
   conv=>whnf
   refine qae (pD (l[(i+1)%l.length]'hm)) (qj8 hlt') (qpT _ _) (qaz l) ?_
   conv=>whnf
   refine qac (by kernel_rfl) ?_
   conv=>whnf
   refine qbI (fun t=>t==3||t==4||t==5) mixed tOk rfl rfl rfl ?_
   conv=>whnf
   have hll:(eL ((cyc l).take i)).length<=100000:=by simp [qbm];omega
   refine qca (qeF _) (by intro x hx;rcases List.mem_singleton.1 hx with rfl;rfl) (by simp only [maxLen,List.length_cons,List.length_nil];omega) ?_
   conv=>whnf
   refine qac (by kernel_rfl) ?_
   conv=>whnf
   refine qak (by omega) ?_
   conv=>whnf
   refine ⟨i+1,by omega,by omega, ?_⟩
   unfold qyB
   have e:eL ((cyc l).take (i+1))=eL ((cyc l).take i)++ [sD l[i] (l[(i+1)%l.length]'hm)] :=by rw [qc3 hlt'];simp only [eL,List.map_append,List.map_cons,List.map_nil]
   rw [e,Int.natCast_succ]
   refine qaj 4 rfl (qaj 5 rfl (qaj 6 rfl (qaj 7 rfl ?_)))
   refine qbD ?_ ?_<;>repeat' (first|exact trivial|exact rfl|apply And.intro)
  ·have:i=l.length:=by rw [qcb] at hge;omega
   subst this
   conv=>whnf
   refine ⟨?_,trivial⟩
   conv=>whnf
   rw [List.take_of_length_le (by rw [qbm];omega)]
abbrev pR(p:RD×RD):D:=ptR p.1 p.2
abbrev rL(l:List (RD×RD)):List D:=l.map pR
theorem qk2(l:List (RD×RD)):Uni 6 (rL l):=by
 intro x hx
 obtain ⟨p,_,rfl⟩:=List.mem_map.1 hx
 rfl
theorem qnu{l:List (RD×RD)}{i:Nat}(h:i<l.length):(rL l)[(i:Int).toNat]? =some (pR l[i]):=by simp [h]
def qef{α:Type}(g:α->Bool)(l:List α):Int:=match l.findIdx? g with
 |some i=>(i:Int)
 |none=> -1
theorem qeQ{α:Type}{g:α->Bool}{l:List α}{i:Nat}(h:i<l.length)(h1: ∀j (hj:j<i),g (l[j]'(by omega))=false)(h2:g l[i] =true):qef g l=i:=by
 have e:l.findIdx? g=some i:=by
  rw [List.findIdx?_eq_some_iff_getElem]
  exact ⟨h,h2,fun j hj=>by simpa using h1 j hj⟩
 unfold qef;rw [e]
theorem qge{α:Type}{g:α->Bool}{l:List α}(h1: ∀j (hj:j<l.length),g l[j] =false):qef g l= -1:=by
 have e:l.findIdx? g=none:=by
  rw [List.findIdx?_eq_none_iff]
  intro x hx
  obtain ⟨i,hi,rfl⟩:=List.getElem_of_mem hx
  exact h1 i hi
 unfold qef;rw [e]
theorem qfJ{α:Type}(g:α->Bool)(l:List α):decide (0<=qef g l)=l.any g:=by
 unfold qef
 cases h:l.findIdx? g with
 |none=>
  rw [List.findIdx?_eq_none_iff] at h
  have:l.any g=false:=by rw [List.any_eq_false];intro x hx;simp [h x hx]
  rw [this];rfl
 |some i=>
  rw [List.findIdx?_eq_some_iff_getElem] at h
  obtain ⟨hi,h2,_⟩:=h
  have:l.any g=true:=List.any_eq_true.2 ⟨l[i],List.getElem_mem _,h2⟩
  rw [this];simp
theorem qyr{f:FuncId}{cap:List D}(g:RD×RD->Bool)(l:List (RD×RD))(hl:l.length<1000000000)(h: ∀p∈l,Fun Tryz.prog f ([pR p] ++cap) [.v (.bool (g p))]):
  Fun Tryz.prog 74 [.l (rL l),.f f cap] [i64 (qef g l)] :=by
 have hll:(rL l).length=l.length:=by simp
 refine qad (fun t=>false) mixed tOk Tryz.func74 rfl rfl ?_
 conv=>whnf
 refine qah (fun t=>false) (fun i:Nat=>⟨fr 19 [(0,.d (.l (rL l))),(1,.d (.f f cap)),(7,.d (i64 (rL l).length)),(8,.d (i64 i))], []⟩) (fun i=>i<=l.length/\ ∀j (hj:j<i) (hjl:j<l.length),g l[j] =false) (fun i=>l.length-i) 0 mixed tOk ⟨by omega,fun j hj=>by omega⟩ ?_ ?_
 ·refine qag ?_ ?_<;>repeat' (first|exact trivial|exact rfl|apply And.intro)
 ·rintro i ⟨hi,hno⟩
  conv=>whnf
  refine qaf (fun hlt=> ?_) (fun hge=> ?_)
  ·have hlt':i<l.length:=by omega
   conv=>whnf
   refine qae (pR l[i]) (qnu hlt') (by omega) (qk2 l) ?_
   conv=>whnf
   refine qaa rfl rfl (h l[i] (List.getElem_mem _)) ?_
   conv=>whnf
   refine qal (fun h1=> ?_) (fun h1=> ?_)
   ·rw [qeQ hlt' (fun j hj=>hno j hj (by omega)) h1]
    conv=>whnf
    exact ⟨rfl,trivial⟩
   ·conv=>whnf
    refine qak (by omega) ?_
    conv=>whnf
    refine ⟨i+1,⟨by omega,fun j hj hjl=> ?_⟩,by omega, ?_⟩
    ·by_cases hji:j=i
     ·subst hji;exact h1
     ·exact hno j (by omega) hjl
    rw [Int.natCast_succ]
    refine qag ?_ ?_<;>repeat' (first|exact trivial|exact rfl|apply And.intro)
  ·have:i=l.length:=by omega
   subst this
   rw [qge (fun j hj=>hno j hj hj)]
   conv=>whnf
   exact ⟨rfl,trivial⟩
theorem qlJ{f:FuncId}{cap:List D}(g:RD×RD->Bool)(l:List (RD×RD))(hl:l.length<1000000000)(h: ∀p∈l,Fun Tryz.prog f ([pR p] ++cap) [.v (.bool (g p))]):
  Fun Tryz.prog 19 [.l (rL l),.f f cap] [.v (.bool (l.any g))] :=by
 refine qad (fun t=>false) mixed tOk Tryz.func19 rfl rfl ?_
 conv=>whnf
 refine qaa rfl rfl (qyr g l hl h) ?_
 conv=>whnf
 refine ⟨?_,trivial⟩
 conv=>whnf
 rw [qaH, <-qfJ]
def okR(p:RD×RD):Bool:=decide (okP p.1 p.2=0)
def SzP(p:RD×RD):Prop:=Sz p.1/\Sz p.2
theorem qrz{p:RD×RD}(h:SzP p):Fun Tryz.prog 265 [pR p] [.v (.bool (!okR p))] :=by
 refine qad (fun t=>false) mixed tOk Tryz.func265 rfl rfl ?_
 conv=>whnf
 refine qaa rfl rfl (qfq p.1 p.2 h.1 h.2) ?_
 conv=>whnf
 refine ⟨?_,trivial⟩
 conv=>whnf
 rw [qaH]
 unfold okR
 rw [Bool.eq_iff_iff];simp
theorem qnK(l:List (RD×RD))(hl:l.length<1000000000)(h: ∀p∈l,SzP p):Fun Tryz.prog 187 [.l (rL l)] [.v (.bool (l.all okR))] :=by
 refine qad (fun t=>false) mixed tOk Tryz.func187 rfl rfl ?_
 conv=>whnf
 refine qaa rfl rfl (qlJ (fun p=> !okR p) l hl (fun p hp=>qrz (h p hp))) ?_
 conv=>whnf
 refine ⟨?_,trivial⟩
 conv=>whnf
 rw [qdQ,List.not_any_eq_all_not];simp
noncomputable def c8L(l:List UInt8):List D:=l.map c8D
@[simp] theorem qBJ(l:List UInt8):(c8L l).length=l.length:=List.length_map ..
theorem qxo(l:List UInt8):Uni 1 (c8L l):=by
 intro x hx
 obtain ⟨i,_,rfl⟩:=List.mem_map.1 hx
 rfl
theorem qvi{l:List UInt8}{i:Nat}(h:i<l.length):(c8L l)[(i:Int).toNat]? =some (c8D l[i]):=by
 unfold c8L;simp [h]
def bdB(b:UInt8):Bool:=bdC (b.toNat:Int)
theorem qsK(l:List UInt8)(hl:l.length<1000000000):Fun Tryz.prog 195 [.l (c8L l),.f 196 []] [i64 (qef bdB l)] :=by
 have hll:(c8L l).length=l.length:=by simp
 refine qad (fun t=>false) mixed tOk Tryz.func195 rfl rfl ?_
 conv=>whnf
 refine qah (fun t=>false) (fun i:Nat=>⟨fr 19 [(0,.d (.l (c8L l))),(1,.d (.f 196 [])),(7,.d (.l (c8L l))),(8,.d (i64 (c8L l).length)),(9,.d (i64 i))], []⟩) (fun i=>i<=l.length/\ ∀j (hj:j<i) (hjl:j<l.length),bdB l[j] =false) (fun i=>l.length-i) 0 mixed tOk ⟨by omega,fun j hj=>by omega⟩ ?_ ?_
 ·refine qag ?_ ?_<;>repeat' (first|exact trivial|exact rfl|apply And.intro)
 ·rintro i ⟨hi,hno⟩
  conv=>whnf
  refine qaf (fun hlt=> ?_) (fun hge=> ?_)
  ·have hlt':i<l.length:=by omega
   conv=>whnf
   refine qae (c8D l[i]) (qvi hlt') (by omega) (qxo l) ?_
   conv=>whnf
   refine qaa rfl rfl (qAn (l[i].toNat:Int)) ?_
   conv=>whnf
   refine qal (fun h1=> ?_) (fun h1=> ?_)
   ·rw [qeQ (g:=bdB) hlt' (fun j hj=>hno j hj (by omega)) h1]
    conv=>whnf
    exact ⟨rfl,trivial⟩
   ·conv=>whnf
    refine qak (by omega) ?_
    conv=>whnf
    refine ⟨i+1,⟨by omega,fun j hj hjl=> ?_⟩,by omega, ?_⟩
    ·by_cases hji:j=i
     ·subst hji;exact h1
     ·exact hno j (by omega) hjl
    rw [Int.natCast_succ]
    refine qag ?_ ?_<;>repeat' (first|exact trivial|exact rfl|apply And.intro)
  ·have:i=l.length:=by omega
   subst this
   rw [qge (fun j hj=>hno j hj hj)]
   conv=>whnf
   exact ⟨rfl,trivial⟩
def nmB(s:ByteArray):Bool:=decide (1<=s.size/\s.size<=16/\ ∀b∈s.data.toList,bdB b=false)
theorem qBN{s:ByteArray}(h:1<=s.size/\s.size<=16):decide (qef bdB s.data.toList<0)=nmB s:=by
 have:=qfJ bdB s.data.toList
 rw [nmB,decide_eq_decide]
 by_cases k:s.data.toList.any bdB=true
 ·rw [k] at this
  have k2:=of_decide_eq_true this
  obtain ⟨b,hb,hb2⟩:=List.any_eq_true.1 k
  exact ⟨fun h2=>absurd h2 (by omega),fun h2=>absurd (h2.2.2 b hb) (by rw [hb2];decide)⟩
 ·rw [Bool.not_eq_true] at k
  rw [k] at this
  have k2:=of_decide_eq_false this
  refine ⟨fun _=>⟨h.1,h.2,fun b hb=> ?_⟩,fun _=>by omega⟩
  cases e:bdB b
  ·rfl
  ·rw [List.any_eq_true.2 ⟨b,hb,e⟩] at k
   exact absurd k (by decide)
theorem qse(s:ByteArray):Fun Tryz.prog 140 [.v (.string s)] [.v (.bool (nmB s))] :=by
 have hu:c8L s.data.toList=strD s:=rfl
 have hsl:s.data.toList.length=s.size:=Array.length_toList
 refine qad (fun t=>false) mixed tOk Tryz.func140 rfl rfl ?_
 conv=>whnf
 refine qaf (fun h1=> ?_) (fun h1=> ?_)
 ·conv=>whnf
  refine ⟨?_,trivial⟩
  conv=>whnf
  rw [nmB,decide_eq_false (by omega)]
 ·conv=>whnf
  refine qaf (fun h2=> ?_) (fun h2=> ?_)
  ·conv=>whnf
   refine ⟨?_,trivial⟩
   conv=>whnf
   rw [nmB,decide_eq_false (by omega)]
  ·conv=>whnf
   refine qak (by simp only [maxLen];omega) ?_
   conv=>whnf
   refine qaa rfl rfl (qsK s.data.toList (by omega)) ?_
   conv=>whnf
   refine ⟨?_,trivial⟩
   conv=>whnf
   rw [qaH]
   exact qBN (by omega)
def ix(l:List P2)(k:Nat):P2:=l.getD (k%l.length) (0,0)
theorem qqv{l:List P2}{k:Nat}(h:k<l.length):ix l k=l[k] :=by
 unfold ix;rw [Nat.mod_eq_of_lt h,List.getD_eq_getElem?_getD,List.getElem?_eq_getElem h];rfl
theorem qgw{l:List P2}{k:Nat}(h:0<l.length):ix l k=l[k%l.length]'(Nat.mod_lt _ h):=by
 unfold ix;rw [List.getD_eq_getElem?_getD,List.getElem?_eq_getElem (Nat.mod_lt _ h)];rfl
theorem qbf{l:List P2}{k:Nat}(h:0<l.length):ix l k∈l:=by rw [qgw h];exact List.getElem_mem _
theorem qmo{l:List P2}{k:Nat}(h:0<l.length):(pL l)[(Int.tmod ((k:Nat):Int) ((pL l).length:Int)).toNat]? =some (pD (ix l k)):=by
 rw [qcb,qcy,Int.toNat_natCast,List.getElem?_map,List.getElem?_eq_getElem (Nat.mod_lt _ h),qgw h];rfl
theorem qdq{l:List P2}{i:Nat}(h:i<l.length):(pL l)[(i:Int).toNat]? =some (pD (ix l i)):=by
 rw [qqv h];exact qfm h
def flB(l:List P2)(i:Nat):Bool:=decide (orI (ix l (i+l.length-1)) (ix l i) (ix l (i+1))=0)
theorem qAO(l:List P2){n:Nat}(hl: ∀p∈l,BP n p)(hn:n<10000000)(hlen:l.length<=100000):Fun Tryz.prog 188 [.l (pL l)] [i64 (qef (flB l) (List.range l.length))] :=by
 have hll:(pL l).length=l.length:=by simp
 refine qad (fun t=>t==5) mixed tOk Tryz.func188 rfl rfl ?_
 conv=>whnf
 refine qah (fun t=>t==5) (fun i:Nat=>⟨fr 36 [(0,.d (.l (pL l))),(3,.d (i64 (pL l).length)),(8,.d (.l (pL l))),(9,.d (i64 (pL l).length)),(10,.d (i64 i))], []⟩) (fun i=>i<=l.length/\ ∀j,j<i->flB l j=false) (fun i=>l.length-i) 0 mixed tOk ⟨by omega,fun j hj=>by omega⟩ ?_ ?_
 ·refine qag ?_ ?_<;>repeat' (first|exact trivial|exact rfl|apply And.intro)
 ·rintro i ⟨hi,hno⟩
  conv=>whnf
  refine qaf (fun hlt=> ?_) (fun hge=> ?_)
  ·have hlt':i<l.length:=by omega
   have h0:0<l.length:=by omega
   have e1:((i:Int)+((pL l).length:Int)-1)=((i+l.length-1:Nat):Int):=by omega
   have e2:((i:Int)+1)=((i+1:Nat):Int):=rfl
   conv=>whnf
   refine qae (pD (ix l i)) (qdq hlt') (by omega) (qaz l) ?_
   conv=>whnf
   refine qak (by omega) ?_
   conv=>whnf
   refine qak (by omega) ?_
   conv=>whnf
   refine qak (by omega) ?_
   conv=>whnf
   refine qae (pD (ix l (i+l.length-1))) (by rw [e1];exact qmo h0) (by rw [e1,qcb,qcy];omega) (qaz l) ?_
   conv=>whnf
   refine qak (by omega) ?_
   conv=>whnf
   refine qak (by omega) ?_
   conv=>whnf
   refine qae (pD (ix l (i+1))) (by rw [e2];exact qmo h0) (by rw [e2,qcb,qcy];omega) (qaz l) ?_
   conv=>whnf
   have m1:=hl _ (qbf h0 (k:=i+l.length-1))
   have m2:=hl _ (qbf h0 (k:=i))
   have m3:=hl _ (qbf h0 (k:=i+1))
   refine qab (qfp m1.1 m1.2 m2.1 m2.2 m3.1 m3.2 (by omega)) ?_
   conv=>whnf
   refine qac (by kernel_rfl) ?_
   conv=>whnf
   refine qa9 (fun h1=> ?_) (fun h1=> ?_)
   ·have e:qef (flB l) (List.range l.length)=i:=qeQ (by simpa using hlt') (fun j hj=>by simpa using hno j hj) (by simp [flB];exact h1)
    rw [e]
    conv=>whnf
    exact ⟨rfl,trivial⟩
   ·conv=>whnf
    refine qak (by omega) ?_
    conv=>whnf
    refine ⟨i+1,⟨by omega,fun j hj=> ?_⟩,by omega, ?_⟩
    ·by_cases hji:j=i
     ·subst hji;exact decide_eq_false h1
     ·exact hno j (by omega)
    rw [Int.natCast_succ]
    refine qaj 0 rfl ?_
    refine qag ?_ ?_<;>repeat' (first|exact trivial|exact rfl|apply And.intro)
  ·have:i=l.length:=by omega
   subst this
   rw [qge (fun j hj=>by simpa using hno j (by simpa using hj))]
   conv=>whnf
   exact ⟨rfl,trivial⟩
def kf(l:List P2):Nat->Nat
 |0=>0
 |i+1=>if cmP (ix l i) (ix l (kf l i))<0 then i else kf l i
theorem qyO(l:List P2): ∀i,kf l i<=i
 |0=>Nat.le_refl _
 |i+1=>by
  unfold kf;split
  ·omega
  ·have:=qyO l i;omega
theorem qp3(l:List P2){n:Nat}(hl: ∀p∈l,BP n p)(hn:n<10000000)(hlen:l.length<=100000):Fun Tryz.prog 190 [.l (pL l)] [i64 (kf l l.length)] :=by
 have hll:(pL l).length=l.length:=by simp
 refine qad (fun t=>t==5) mixed tOk Tryz.func190 rfl rfl ?_
 conv=>whnf
 refine qah (fun t=>t==5) (fun i:Nat=>⟨fr 23 [(0,.d (.l (pL l))),(3,.d (i64 (kf l i))),(6,.d (.l (pL l))),(7,.d (i64 (pL l).length)),(8,.d (i64 i))], []⟩) (fun i=>i<=l.length) (fun i=>l.length-i) 0 mixed tOk (by omega) ?_ ?_
 ·refine qag ?_ ?_<;>repeat' (first|exact trivial|exact rfl|apply And.intro)
 ·intro i hi
  conv=>whnf
  refine qaf (fun hlt=> ?_) (fun hge=> ?_)
  ·have hlt':i<l.length:=by omega
   have h0:0<l.length:=by omega
   have hk:=qyO l i
   have m1:=(hl _ (qbf h0 (k:=i))).q (by omega)
   have m2:=(hl _ (qbf h0 (k:=kf l i))).q (by omega)
   conv=>whnf
   refine qae (pD (ix l i)) (qdq hlt') (by omega) (qaz l) ?_
   conv=>whnf
   refine qae (pD (ix l (kf l i))) (qdq (by omega)) (by omega) (qaz l) ?_
   conv=>whnf
   refine qab (qd2 m1.1 m1.2 m2.1 m2.2) ?_
   conv=>whnf
   refine qac (by kernel_rfl) ?_
   conv=>whnf
   refine qaf (fun h1=> ?_) (fun h1=> ?_)
   ·have e:kf l (i+1)=i:=by unfold kf;rw [if_pos h1]
    conv=>whnf
    refine qak (by omega) ?_
    conv=>whnf
    refine ⟨i+1,by omega,by omega, ?_⟩
    rw [e,Int.natCast_succ]
    refine qaj 0 rfl ?_
    refine qag ?_ ?_<;>repeat' (first|exact trivial|exact rfl|apply And.intro)
   ·have e:kf l (i+1)=kf l i:=by conv=>lhs;unfold kf;rw [if_neg h1]
    conv=>whnf
    refine qak (by omega) ?_
    conv=>whnf
    refine ⟨i+1,by omega,by omega, ?_⟩
    rw [e,Int.natCast_succ]
    refine qaj 0 rfl ?_
    refine qag ?_ ?_<;>repeat' (first|exact trivial|exact rfl|apply And.intro)
  ·have:i=l.length:=by omega
   subst this
   conv=>whnf
   exact ⟨rfl,trivial⟩
def ed(l:List P2)(i:Nat):P2×P2:=(ix l i,ix l (i+1))
theorem qgj{l:List P2}{i:Nat}(h:i<l.length):(eL (cyc l))[(i:Int).toNat]? =some (sD (ed l i).1 (ed l i).2):=by
 rw [Int.toNat_natCast,List.getElem?_map,List.getElem?_eq_getElem (by rw [qbm];exact h),qhH h]
 unfold ed
 rw [qqv h,qgw (show 0<l.length by omega)];rfl
def xB(l:List P2)(i k:Nat):Bool:=decide (i+2<=k)&&(!(decide (i=0)&&decide (k=l.length-1))&&mtB (ed l i).1 (ed l i).2 (ed l k).1 (ed l k).2)
@[irreducible] def crB(l:List P2):Bool:=(List.range l.length).any fun i=>(List.range l.length).any fun k=>xB l i k
theorem qu2{l:List P2}{i k:Nat}(h1:i<l.length)(h2:k<l.length)(h:xB l i k=true):crB l=true:=by
 unfold crB
 exact List.any_eq_true.2 ⟨i,by simpa using h1,List.any_eq_true.2 ⟨k,by simpa using h2,h⟩⟩
theorem qEm{l:List P2}(h: ∀i k,i<l.length->k<l.length->xB l i k=false):crB l=false:=by
 unfold crB
 rw [List.any_eq_false];intro i hi
 rw [Bool.not_eq_true,List.any_eq_false];intro k hk
 rw [h i k (by simpa using hi) (by simpa using hk)];simp
def qE1(l:List P2)(i:Nat):St:=⟨fr 49 [(3,.d (.l (eL (cyc l)))),(4,.d (i64 (eL (cyc l)).length)),(15,.d (i64 (eL (cyc l)).length)),(16,.d (i64 i))], []⟩
def qtt(l:List P2)(i k:Nat):St:=⟨fr 49 [(3,.d (.l (eL (cyc l)))),(4,.d (i64 (eL (cyc l)).length)),(5,.d (i64 i)),(6,.d (i64 k)),(15,.d (i64 (eL (cyc l)).length)),(16,.d (i64 i))], []⟩
theorem qgz{l:List P2}{n:Nat}(hl: ∀p∈l,BP n p)(h:0<l.length)(i:Nat):BP n (ed l i).1/\BP n (ed l i).2:=⟨hl _ (qbf h),hl _ (qbf h)⟩
theorem qiN(l:List P2){n:Nat}(hl: ∀p∈l,BP n p)(hn:n<10000000)(hlen:l.length<=100000):Fun Tryz.prog 189 [.l (pL l)] [.v (.bool (crB l))] :=by
 have hll:(eL (cyc l)).length=l.length:=by simp [qbm]
 refine qad (fun t=>t==7) mixed tOk Tryz.func189 rfl rfl ?_
 conv=>whnf
 refine qaa rfl rfl (qlO l hlen) ?_
 conv=>whnf
 refine qah (fun t=>t==7) (fun i:Nat=>qE1 l i) (fun i=>i<=l.length/\ ∀j k,j<i->k<l.length->xB l j k=false) (fun i=>l.length-i) 0 mixed tOk ⟨by omega,fun j k hj=>by omega⟩ ?_ ?_
 ·refine qag ?_ ?_<;>repeat' (first|exact trivial|exact rfl|apply And.intro)
 ·rintro i ⟨hi,hno⟩
  conv=>whnf
  refine qaf (fun hlt=> ?_) (fun hge=> ?_)
  ·have hlt':i<l.length:=by omega
   have h0:0<l.length:=by omega
   conv=>whnf
   refine qak (by omega) ?_
   conv=>whnf
   refine qah (fun t=>t==7) (fun k:Nat=>qtt l i k) (fun k=>i+2<=k/\ ∀j,j<k->j<l.length->xB l i j=false) (fun k=>l.length-k) (i+2) mixed tOk ⟨by omega,fun j hj _=> ?_⟩ ?_ ?_
   ·unfold xB;rw [decide_eq_false (by omega)];rfl
   ·refine qag ?_ ?_<;>repeat' (first|exact trivial|exact rfl|apply And.intro)
   ·rintro k ⟨hk,hnok⟩
    have step:k<l.length->xB l i k=false-> ∀j,j<k+1->j<l.length->xB l i j=false:=fun _ h j hj hjl=>by
     by_cases hjk:j=k
     ·subst hjk;exact h
     ·exact hnok j (by omega) hjl
    conv=>whnf
    refine qaf (fun hlt2=> ?_) (fun hge2=> ?_)
    ·have hlt2':k<l.length:=by omega
     conv=>whnf
     refine qa9 (fun c1=> ?_) (fun c1=> ?_)
     ·conv=>whnf
      refine qak (by omega) ?_
      conv=>whnf
      refine qa9 (fun c2=> ?_) (fun c2=> ?_)
      ·have hx:xB l i k=false:=by unfold xB;rw [decide_eq_true (show i=0 by omega),decide_eq_true (show k=l.length-1 by omega)];simp
       conv=>whnf
       refine qak (by omega) ?_
       conv=>whnf
       refine ⟨k+1,⟨by omega,step hlt2' hx⟩,by omega, ?_⟩
       unfold qtt;rw [Int.natCast_succ]
       refine qag ?_ ?_<;>repeat' (first|exact trivial|exact rfl|apply And.intro)
      ·have hz:xB l i k=mtB (ed l i).1 (ed l i).2 (ed l k).1 (ed l k).2:=by unfold xB;rw [decide_eq_true hk,decide_eq_false (show¬k=l.length-1 by omega),Bool.and_false];rfl
       conv=>whnf
       refine qae (sD (ed l i).1 (ed l i).2) (qgj hlt') (by omega) (qeF _) ?_
       conv=>whnf
       refine qae (sD (ed l k).1 (ed l k).2) (qgj hlt2') (by omega) (qeF _) ?_
       conv=>whnf
       refine qab (qlE (qgz hl h0 i).1 (qgz hl h0 i).2 (qgz hl h0 k).1 (qgz hl h0 k).2 (by omega)) ?_
       conv=>whnf
       refine qac (by kernel_rfl) ?_
       conv=>whnf
       refine qal (fun c3=> ?_) (fun c3=> ?_)
       ·rw [qu2 hlt' hlt2' (by rw [hz];exact c3)]
        conv=>whnf
        exact ⟨rfl,trivial⟩
       ·have hx:xB l i k=false:=by rw [hz];exact c3
        conv=>whnf
        refine qak (by omega) ?_
        conv=>whnf
        refine ⟨k+1,⟨by omega,step hlt2' hx⟩,by omega, ?_⟩
        unfold qtt;rw [Int.natCast_succ]
        refine qaj 0 rfl ?_
        refine qag ?_ ?_<;>repeat' (first|exact trivial|exact rfl|apply And.intro)
     ·have hz:xB l i k=mtB (ed l i).1 (ed l i).2 (ed l k).1 (ed l k).2:=by unfold xB;rw [decide_eq_true hk,decide_eq_false (show¬i=0 by omega),Bool.false_and];rfl
      conv=>whnf
      refine qae (sD (ed l i).1 (ed l i).2) (qgj hlt') (by omega) (qeF _) ?_
      conv=>whnf
      refine qae (sD (ed l k).1 (ed l k).2) (qgj hlt2') (by omega) (qeF _) ?_
      conv=>whnf
      refine qab (qlE (qgz hl h0 i).1 (qgz hl h0 i).2 (qgz hl h0 k).1 (qgz hl h0 k).2 (by omega)) ?_
      conv=>whnf
      refine qac (by kernel_rfl) ?_
      conv=>whnf
      refine qal (fun c3=> ?_) (fun c3=> ?_)
      ·rw [qu2 hlt' hlt2' (by rw [hz];exact c3)]
       conv=>whnf
       exact ⟨rfl,trivial⟩
      ·have hx:xB l i k=false:=by rw [hz];exact c3
       conv=>whnf
       refine qak (by omega) ?_
       conv=>whnf
       refine ⟨k+1,⟨by omega,step hlt2' hx⟩,by omega, ?_⟩
       unfold qtt;rw [Int.natCast_succ]
       refine qaj 0 rfl ?_
       refine qag ?_ ?_<;>repeat' (first|exact trivial|exact rfl|apply And.intro)
    ·conv=>whnf
     refine qak (by omega) ?_
     conv=>whnf
     refine ⟨i+1,⟨by omega,fun j k' hj hk'=> ?_⟩,by omega, ?_⟩
     ·by_cases hji:j=i
      ·subst hji;exact hnok k' (by omega) hk'
      ·exact hno j k' (by omega) hk'
     unfold qE1;rw [Int.natCast_succ]
     refine qag ?_ ?_<;>repeat' (first|exact trivial|exact rfl|apply And.intro)
  ·have:i=l.length:=by omega
   subst this
   rw [qEm (fun i k hi hk=>hno i k hi hk)]
   conv=>whnf
   exact ⟨rfl,trivial⟩
@[irreducible] def rgE(l:List P2):Int:=
 if l.length<3\/64<l.length then 4
 else if 0<=qef (flB l) (List.range l.length) then 12
 else if crB l=true then 13
 else if qfQ (tot crQ l/2)<=0\/(kf l l.length:Int)≠0 then 8
 else 0
def vP(p:RD×RD):P2:=(p.1.val,p.2.val)
def cP(p:P2):RD×RD:=(canon p.1,canon p.2)
@[irreducible] def rgR(l:List (RD×RD)):Int:=
 if l.length<3\/64<l.length then 4 else if l.all okR=true then rgE (l.map vP) else 1
theorem qzh(p:P2):pR (cP p)=pD p:=by unfold cP;show ptR (canon p.1) (canon p.2)=ptD p.1 p.2;unfold ptD ptR qel qeC qeB;rfl
theorem qfu{l:List (RD×RD)}(h:l.all okR=true):rL l=pL (l.map vP):=by
 rw [List.all_eq_true] at h
 unfold rL pL
 rw [List.map_map]
 refine List.map_congr_left fun p hp=> ?_
 have:=h p hp
 unfold okR at this
 rw [decide_eq_true_eq,qdO] at this
 show pR p=pD (vP p)
 rw [<-qzh]
 unfold cP vP
 rw [this.1,this.2]
theorem BP.szp{n:Nat}{p:P2}(h:BP n p)(hn:n<90000000000):SzP (cP p):=⟨qva h.1 hn,qva h.2 hn⟩
theorem qz1(p:P2):okR (cP p)=true:=by
 unfold okR cP
 exact decide_eq_true (qdO.2 ⟨by rw [qar],by rw [qar]⟩)
theorem qpt(p:P2):vP (cP p)=p:=by unfold vP cP;rw [qar,qar]
theorem qiV(l:List (RD×RD)){n:Nat}(hz: ∀p∈l,SzP p)(hl: ∀p∈l,BP n (vP p))(hn:n<1000000)(hlen:l.length<=100000):Fun Tryz.prog 137 [.l (rL l)] [i64 (rgR l)] :=by
 have hll:(rL l).length=l.length:=by simp
 refine qad (fun t=>false) mixed tOk Tryz.func137 rfl rfl ?_
 conv=>whnf
 refine qaf (fun h1=> ?_) (fun h1=> ?_)
 ·have e:rgR l=4:=by unfold rgR;rw [if_pos (by omega)]
  rw [e]
  conv=>whnf
  exact ⟨rfl,trivial⟩
 conv=>whnf
 refine qaf (fun h2=> ?_) (fun h2=> ?_)
 ·have e:rgR l=4:=by unfold rgR;rw [if_pos (by omega)]
  rw [e]
  conv=>whnf
  exact ⟨rfl,trivial⟩
 conv=>whnf
 refine qaa rfl rfl (qnK l (by omega) hz) ?_
 conv=>whnf
 refine qbu (fun h3=> ?_) (fun h3=> ?_)
 ·have e:rgR l=1:=by unfold rgR;rw [if_neg (by omega),h3];rfl
  rw [e]
  conv=>whnf
  exact ⟨rfl,trivial⟩
 have e0:rgR l=rgE (l.map vP):=by unfold rgR;rw [if_neg (by omega),if_pos h3]
 rw [e0,qfu h3]
 have hm: ∀p∈l.map vP,BP n p:=fun p hp=>by
  obtain ⟨q,hq,rfl⟩:=List.mem_map.1 hp
  exact hl q hq
 have hml:(l.map vP).length=l.length:=List.length_map ..
 generalize hM:l.map vP=m at hm hml ⊢
 have r0:rgE m=if 0<=qef (flB m) (List.range m.length) then 12 else if crB m=true then 13 else if qfQ (tot crQ m/2)<=0\/(kf m m.length:Int)≠0 then 8 else 0:=by
  unfold rgE;rw [if_neg (by omega)]
 rw [r0]
 conv=>whnf
 refine qaa rfl rfl (qAO m hm (by omega) (by omega)) ?_
 conv=>whnf
 refine qaf (fun h4=> ?_) (fun h4=> ?_)
 ·rw [if_pos h4]
  conv=>whnf
  exact ⟨rfl,trivial⟩
 rw [if_neg h4]
 conv=>whnf
 refine qaa rfl rfl (qiN m hm (by omega) (by omega)) ?_
 conv=>whnf
 refine qal (fun h5=> ?_) (fun h5=> ?_)
 ·rw [if_pos h5]
  conv=>whnf
  exact ⟨rfl,trivial⟩
 rw [if_neg (by rw [h5];decide)]
 have hta:Bd (1000*(4*n+2)+1) (tot crQ m/2):=by
  have:=qdL hm m.length (Nat.le_refl _)
  rw [qfY] at this
  refine (this.div (qd3 2 (n:=1) (by decide))).mono ?_
  have:m.length*(4*n+2)<=1000*(4*n+2):=Nat.mul_le_mul_right _ (by omega)
  omega
 conv=>whnf
 refine qaa rfl rfl (qm3 m hm (by omega) (by omega)) ?_
 conv=>whnf
 refine qaa rfl rfl (qim (.mk hta (by omega))) ?_
 conv=>whnf
 refine qaf (fun h6=> ?_) (fun h6=> ?_)
 ·rw [if_pos (.inl h6)]
  conv=>whnf
  exact ⟨rfl,trivial⟩
 conv=>whnf
 refine qaa rfl rfl (qp3 m hm (by omega) (by omega)) ?_
 conv=>whnf
 refine qav (fun h7=> ?_) (fun h7=> ?_)
 ·rw [if_pos (.inr h7)]
  conv=>whnf
  exact ⟨rfl,trivial⟩
 ·rw [if_neg (by rintro (h|h)<;>contradiction)]
  conv=>whnf
  exact ⟨rfl,trivial⟩
def abB(p q:P2):Bool:=decide (0<qdk q.2 p.2)
theorem qh0{p q:P2}(hp:QP p)(hq:QP q):Fun Tryz.prog 325 [pD q,.p 0 (pD p).cells] [.v (.bool (abB p q))] :=by
 obtain ⟨x,y⟩:=p
 obtain ⟨u,v⟩:=q
 refine qad (fun t=>false) mixed tOk Tryz.func325 rfl rfl ?_
 conv=>whnf
 refine qaa rfl rfl (qs4 hq.2 hp.2) ?_
 conv=>whnf
 refine ⟨?_,trivial⟩
 conv=>whnf
 rw [qaH];unfold abB;rfl
def swE(p:P2)(e:P2×P2):P2×P2:=if abB p e.1 then (e.2,e.1) else e
def odE(p:P2)(e:P2×P2):Bool:= !abB p (swE p e).1&&(abB p (swE p e).2&&decide (0<orI (swE p e).1 (swE p e).2 p))
def odF(p:P2)(out:Bool)(e:P2×P2):Bool:=if odE p e then !out else out
@[irreducible] def odB(l:List P2)(p:P2):Bool:=(cyc l).foldl (odF p) false
noncomputable def qi4(l:List P2)(p:P2)(i:Nat):St:=
 ⟨fr 25 [(0,.own 2 0),(1,.d (.p 0 [.l (pL l)])),(5,.d (.l (pL l))),(6,.d (i64 (pL l).length)),(7,.d (i64 i))],
  [.box 49 [.d (.f 325 [.p 0 (pD p).cells])],.box 4 [.d (.v (.bool (((cyc l).take i).foldl (odF p) false)))],
  .loop .ready none #[12,13] (rfO Tryz.f244.body).1 (rfO Tryz.f244.body).2 (fr 38 [(3,.d (.p 0 (pD p).cells)),(5,.ptr 0 0 0),(6,.ptr 1 0 0)])]⟩
theorem qEt(l:List P2)(p:P2){n:Nat}(hl: ∀p∈l,BP n p)(hp:BP n p)(hn:n<10000000)(hlen:l.length<=100000):Fun Tryz.prog 244 [.l (pL l),pD p] [.v (.bool (odB l p))] :=by
 have qp:=hp.q (by omega)
 refine qad (fun t=>t==5||t==6||t==7||t==8) mixed tOk Tryz.func244 rfl rfl ?_
 conv=>whnf
 refine qaa rfl rfl (qgV l) ?_
 conv=>whnf
 refine qbV (g:=172) (cap:= [.d (.p 0 [.l (pL l)])]) (fun t=>t==5||t==6||t==7||t==8) mixed tOk rfl rfl rfl rfl rfl ?_
 conv=>whnf
 refine qbX (fun t=>t==5||t==6||t==7||t==8||t==4) (fun i:Nat=>qi4 l p i) (fun i=>i<=l.length) (fun i=>l.length-i) 0 mixed tOk (by omega) ?_ ?_
 ·refine qbD ?_ ?_<;>repeat' (first|exact trivial|exact rfl|apply And.intro)
 ·intro i hi
  conv=>whnf
  refine qaf (fun hlt=> ?_) (fun hge=> ?_)
  ·have hlt':i<l.length:=by rw [qcb] at hlt;omega
   have hm:=qb1 hlt'
   conv=>whnf
   refine qae (pD l[i]) (qfm hlt') (by omega) (qaz l) ?_
   conv=>whnf
   refine qd6 10 _ (fun t=>t==5||t==6||t==7||t==8||t==4) (.tmp 12) [.tmp 13,.tmp 21] mixed tOk rfl rfl ⟨_,rfl⟩ (by kernel_rfl) ?_
   conv=>whnf
   refine qak (by omega) ?_
   conv=>whnf
   refine qak (by omega) ?_
   conv=>whnf
   refine qae (pD (l[(i+1)%l.length]'hm)) (qj8 hlt') (qpT _ _) (qaz l) ?_
   conv=>whnf
   refine qac (by kernel_rfl) ?_
   conv=>whnf
   refine qbI (fun t=>t==5||t==6||t==7||t==8) mixed tOk rfl rfl rfl ?_
   conv=>whnf
   have b1:=hl l[i] (List.getElem_mem _)
   have b2:=hl (l[(i+1)%l.length]'hm) (List.getElem_mem _)
   have hcy:=qc3 hlt'
   generalize l[i] =a at*
   generalize l[(i+1)%l.length]'hm=b at*
   have q1:=b1.q (by omega)
   have q2:=b2.q (by omega)
   have hstep:((cyc l).take (i+1)).foldl (odF p) false=odF p (((cyc l).take i).foldl (odF p) false) (a,b):=by rw [hcy,List.foldl_append];rfl
   generalize ((cyc l).take i).foldl (odF p) false=out at*
   refine qaa rfl rfl (qh0 qp q1) ?_
   conv=>whnf
   refine qal (fun c1=> ?_) (fun c1=> ?_)
   ·have hsw:swE p (a,b)=(b,a):=by unfold swE;rw [c1];rfl
    have e0:swE p (a,b)=(b,a):=hsw
    conv=>whnf
    refine qaa rfl rfl (qh0 qp q2) ?_
    conv=>whnf
    refine qbu (fun c2=> ?_) (fun c2=> ?_)
    ·conv=>whnf
     refine qaa rfl rfl (qh0 qp q1) ?_
     conv=>whnf
     refine qal (fun c3=> ?_) (fun c3=> ?_)
     ·conv=>whnf
      refine qaa rfl rfl (qfp b2.1 b2.2 b1.1 b1.2 hp.1 hp.2 (by omega)) ?_
      conv=>whnf
      refine qaf (fun c4=> ?_) (fun c4=> ?_)
      ·have hz:odF p out (a,b)= !out:=by unfold odF odE;rw [e0,c2,c3,decide_eq_true c4];rfl
       conv=>whnf
       refine qac (by kernel_rfl) ?_
       conv=>whnf
       refine qak (by omega) ?_
       conv=>whnf
       refine ⟨i+1,by omega,by omega, ?_⟩
       unfold qi4
       rw [hstep,hz,Int.natCast_succ]
       refine qaj 3 rfl (qaj 4 rfl (qaj 5 rfl (qaj 6 rfl ?_)))
       refine qbD ?_ ?_<;>repeat' (first|exact trivial|exact rfl|apply And.intro)
      ·have hz:odF p out (a,b)=out:=by unfold odF odE;rw [e0,c2,c3,decide_eq_false c4];rfl
       conv=>whnf
       refine qac (by kernel_rfl) ?_
       conv=>whnf
       refine qak (by omega) ?_
       conv=>whnf
       refine ⟨i+1,by omega,by omega, ?_⟩
       unfold qi4
       rw [hstep,hz,Int.natCast_succ]
       refine qaj 3 rfl (qaj 4 rfl (qaj 5 rfl (qaj 6 rfl ?_)))
       refine qbD ?_ ?_<;>repeat' (first|exact trivial|exact rfl|apply And.intro)
     ·have hz:odF p out (a,b)=out:=by unfold odF odE;rw [e0,c2,c3];rfl
      conv=>whnf
      refine qac (by kernel_rfl) ?_
      conv=>whnf
      refine qak (by omega) ?_
      conv=>whnf
      refine ⟨i+1,by omega,by omega, ?_⟩
      unfold qi4
      rw [hstep,hz,Int.natCast_succ]
      refine qaj 3 rfl (qaj 4 rfl (qaj 5 rfl (qaj 6 rfl ?_)))
      refine qbD ?_ ?_<;>repeat' (first|exact trivial|exact rfl|apply And.intro)
    ·have hz:odF p out (a,b)=out:=by unfold odF odE;rw [e0,c2];rfl
     conv=>whnf
     refine qac (by kernel_rfl) ?_
     conv=>whnf
     refine qak (by omega) ?_
     conv=>whnf
     refine ⟨i+1,by omega,by omega, ?_⟩
     unfold qi4
     rw [hstep,hz,Int.natCast_succ]
     refine qaj 3 rfl (qaj 4 rfl (qaj 5 rfl (qaj 6 rfl ?_)))
     refine qbD ?_ ?_<;>repeat' (first|exact trivial|exact rfl|apply And.intro)
   ·have hsw:swE p (a,b)=(a,b):=by unfold swE;rw [c1];rfl
    have e0:swE p (a,b)=(a,b):=hsw
    conv=>whnf
    refine qaa rfl rfl (qh0 qp q1) ?_
    conv=>whnf
    refine qbu (fun c2=> ?_) (fun c2=> ?_)
    ·conv=>whnf
     refine qaa rfl rfl (qh0 qp q2) ?_
     conv=>whnf
     refine qal (fun c3=> ?_) (fun c3=> ?_)
     ·conv=>whnf
      refine qaa rfl rfl (qfp b1.1 b1.2 b2.1 b2.2 hp.1 hp.2 (by omega)) ?_
      conv=>whnf
      refine qaf (fun c4=> ?_) (fun c4=> ?_)
      ·have hz:odF p out (a,b)= !out:=by unfold odF odE;rw [e0,c2,c3,decide_eq_true c4];rfl
       conv=>whnf
       refine qac (by kernel_rfl) ?_
       conv=>whnf
       refine qak (by omega) ?_
       conv=>whnf
       refine ⟨i+1,by omega,by omega, ?_⟩
       unfold qi4
       rw [hstep,hz,Int.natCast_succ]
       refine qaj 3 rfl (qaj 4 rfl (qaj 5 rfl (qaj 6 rfl ?_)))
       refine qbD ?_ ?_<;>repeat' (first|exact trivial|exact rfl|apply And.intro)
      ·have hz:odF p out (a,b)=out:=by unfold odF odE;rw [e0,c2,c3,decide_eq_false c4];rfl
       conv=>whnf
       refine qac (by kernel_rfl) ?_
       conv=>whnf
       refine qak (by omega) ?_
       conv=>whnf
       refine ⟨i+1,by omega,by omega, ?_⟩
       unfold qi4
       rw [hstep,hz,Int.natCast_succ]
       refine qaj 3 rfl (qaj 4 rfl (qaj 5 rfl (qaj 6 rfl ?_)))
       refine qbD ?_ ?_<;>repeat' (first|exact trivial|exact rfl|apply And.intro)
     ·have hz:odF p out (a,b)=out:=by unfold odF odE;rw [e0,c2,c3];rfl
      conv=>whnf
      refine qac (by kernel_rfl) ?_
      conv=>whnf
      refine qak (by omega) ?_
      conv=>whnf
      refine ⟨i+1,by omega,by omega, ?_⟩
      unfold qi4
      rw [hstep,hz,Int.natCast_succ]
      refine qaj 3 rfl (qaj 4 rfl (qaj 5 rfl (qaj 6 rfl ?_)))
      refine qbD ?_ ?_<;>repeat' (first|exact trivial|exact rfl|apply And.intro)
    ·have hz:odF p out (a,b)=out:=by unfold odF odE;rw [e0,c2];rfl
     conv=>whnf
     refine qac (by kernel_rfl) ?_
     conv=>whnf
     refine qak (by omega) ?_
     conv=>whnf
     refine ⟨i+1,by omega,by omega, ?_⟩
     unfold qi4
     rw [hstep,hz,Int.natCast_succ]
     refine qaj 3 rfl (qaj 4 rfl (qaj 5 rfl (qaj 6 rfl ?_)))
     refine qbD ?_ ?_<;>repeat' (first|exact trivial|exact rfl|apply And.intro)
  ·have:i=l.length:=by rw [qcb] at hge;omega
   subst this
   conv=>whnf
   refine ⟨?_,trivial⟩
   conv=>whnf
   unfold odB
   rw [List.take_of_length_le (by rw [qbm];omega)]
end Go.Nv
end
