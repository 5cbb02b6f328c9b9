import Derived.Test.YtlmmifgminkdkaaGreatNwD5
import Derived.Test.YtlmmifgminkdkaaGreatNwD1
set_option linter.all false
set_option maxRecDepth 100000
section
namespace Go.Nv
open Go.Proofs Nw
theorem qgB{a b p:P2}(hab:a≠b)(ho:orQ a b p=0)(h1:leP a p)(h2:leP p b): ∃t:Rat,0<=t/\t<=1/\lin a b t=p:=by
 unfold leP at h1 h2
 simp only [orQ] at ho
 by_cases hx:a.1=b.1
 ·have hy:a.2≠b.2:=fun h=>hab (Prod.ext hx h)
  have hz:(b.2-a.2)*(p.1-a.1)=0:=by rw [hx] at ho ⊢;grind
  have hpx:p.1=a.1:=by
   rcases Rat.mul_eq_zero.1 hz with h|h
   ·exact absurd (by grind) hy
   ·grind
  have y1:a.2<=p.2:=by grind
  have y2:p.2<=b.2:=by grind
  obtain ⟨t0,t1⟩:=qby (x:=p.2-a.2) (y:=b.2-a.2) (by grind) (by grind) (by grind)
  refine ⟨_,t0,t1,Prod.ext ?_ ?_⟩
  ·simp only [lin];rw [hx,hpx];grind
  ·simp only [lin]
   have:b.2-a.2≠0:=by grind
   grind
 ·have x1:a.1<=p.1:=by grind
  have x2:p.1<=b.1:=by grind
  obtain ⟨t0,t1⟩:=qby (x:=p.1-a.1) (y:=b.1-a.1) (by grind) (by grind) (by grind)
  have hn:b.1-a.1≠0:=by grind
  refine ⟨_,t0,t1,Prod.ext ?_ ?_⟩
  ·simp only [lin];grind
  ·simp only [lin];grind
theorem qcf{p q:P2}:cmP p q=0↔p=q:=by
 unfold cmP
 by_cases h:qdo p.1 q.1=0
 ·rw [if_pos h,qbt]
  have:=qbt.1 h
  exact ⟨fun h2=>Prod.ext this h2,fun h2=>by rw [h2]⟩
 ·rw [if_neg h]
  exact ⟨fun h2=>absurd h2 h,fun h2=>absurd (qbt.2 (by rw [h2])) h⟩
theorem qx1{a b p:P2}(hab:a≠b):qq5 a b p=true↔ ∃t:Rat,0<=t/\t<=1/\lin a b t=p:=by
 unfold qq5
 rw [Bool.and_eq_true,Bool.and_eq_true,Bool.or_eq_true,decide_eq_true_eq,decide_eq_true_eq,decide_eq_true_eq,decide_eq_true_eq,qfn]
 constructor
 ·rintro ⟨ho,hp,_⟩
  rcases qea a p with h1|h1|h1<;>rcases qea p b with h2|h2|h2
  ·exact qgB hab ho (qbA.1 (by omega)) (qbA.1 (by omega))
  ·exact ⟨1,by grind,by grind,by rw [qa0];exact (qcf.1 h2).symm⟩
  ·rw [h1,h2] at hp;exact absurd hp (by decide)
  ·exact ⟨0,by grind,by grind,by rw [qau];exact qcf.1 h1⟩
  ·exact ⟨0,by grind,by grind,by rw [qau];exact qcf.1 h1⟩
  ·exact ⟨0,by grind,by grind,by rw [qau];exact qcf.1 h1⟩
  ·rw [h1,h2] at hp;exact absurd hp (by decide)
  ·exact ⟨1,by grind,by grind,by rw [qa0];exact (qcf.1 h2).symm⟩
  ·have k1:leP p a:=qd2 fun h=>by have:=qbA.2 h;omega
   have k2:leP b p:=qd2 fun h=>by have:=qbA.2 h;omega
   obtain ⟨t,t0,t1,e⟩:=qgB (a:=b) (b:=a) (fun h=>hab h.symm) (by simp only [orQ] at ho ⊢;grind) k2 k1
   exact ⟨1-t,by grind,by grind,by rw [<-e];exact (qce a b t).symm⟩
 ·rintro ⟨t,t0,t1,rfl⟩
  refine ⟨by simp only [orQ,lin];grind, ?_,.inl fun h=>hab (qcf.1 h)⟩
  rcases qke a b with h|h
  ·obtain ⟨k1,k2⟩:=qjl h t0 t1
   have c1:=qbA.2 k1
   have c2:=qbA.2 k2
   rcases qea a (lin a b t) with h1|h1|h1<;>rcases qea (lin a b t) b with h2|h2|h2<;>rw [h1,h2] <;>first|decide|omega
  ·obtain ⟨k1,k2⟩:=qjl h (t:=1-t) (by grind) (by grind)
   rw [qce] at k1 k2
   have e:(1:Rat)-(1-t)=t:=by grind
   rw [e] at k1 k2
   --a point not greater,and not less
   have g1:cmP a (lin a b t)=0\/0<cmP a (lin a b t):=by
    rcases qea a (lin a b t) with h1|h1|h1
    ·have:=qbA.1 (show cmP a (lin a b t)<=0 by omega)
     have:a=lin a b t:=by
      unfold leP at this k2
      generalize lin a b t=z at*
      exact Prod.ext (by grind) (by grind)
     exact .inl (qcf.2 this)
    ·exact .inl h1
    ·exact .inr (by omega)
   have g2:cmP (lin a b t) b=0\/0<cmP (lin a b t) b:=by
    rcases qea (lin a b t) b with h1|h1|h1
    ·have:=qbA.1 (show cmP (lin a b t) b<=0 by omega)
     have:lin a b t=b:=by
      unfold leP at this k1
      generalize lin a b t=z at*
      exact Prod.ext (by grind) (by grind)
     exact .inl (qcf.2 this)
    ·exact .inl h1
    ·exact .inr (by omega)
   rcases g1 with g1|g1
   ·rw [g1];omega
   ·rcases g2 with g2|g2
    ·rw [g2];omega
    ·exact Int.mul_nonneg (by omega) (by omega)
def whL:List (List P2)->P2->Int
 | [],_=>1
 |h::hs,q=>if 0-inV h q<=0 then 0-inV h q else whL hs q
def whV(o:List P2)(hs:List (List P2))(q:P2):Int:=if inV o q<=0 then inV o q else whL hs q
def arS(o:List P2)(hs:List (List P2)):Rat:=hs.foldl (fun a h=>a-tot crQ h/2) (tot crQ o/2)
theorem qvY(o:List P2)(hs:List (List P2)):Fun Tryz.prog 174 [.a [.l (pL o),.l (hQ hs)]] [.f 242 [.p 0 [.l (pL o),.l (hQ hs)]]] :=by
 refine qac (fun t=>false) mixed tOk Tryz.func174 rfl rfl ?_
 conv=>whnf
 refine ⟨?_,trivial⟩
 conv=>whnf
 rfl
theorem qmY{o:List P2}{hs:List (List P2)}{i:Nat}(h:i<hs.length):arS o (hs.take (i+1))=arS o (hs.take i)-tot crQ hs[i] /2:=by
 unfold arS;rw [List.take_succ_eq_append_getElem h,List.foldl_append];rfl
theorem qeL{l:List P2}{n:Nat}(hl: ∀p∈l,BP n p)(hlen:l.length<=100):Bd (100*(4*n+2)+1) (tot crQ l/2):=by
 have:=qec hl l.length (Nat.le_refl _)
 rw [qhL] at this
 refine (this.div (qez 2 (n:=1) (by decide))).mono ?_
 have:l.length*(4*n+2)<=100*(4*n+2):=Nat.mul_le_mul_right _ (by omega)
 omega
theorem qs0{o:List P2}{hs:List (List P2)}{n:Nat}(ho: ∀p∈o,BP n p)(hlo:o.length<=100)(hh: ∀h∈hs,(∀p∈h,BP n p)/\h.length<=100): ∀i,i<=hs.length->Bd ((i+1)*(100*(4*n+2)+2)) (arS o (hs.take i))
 |0,_=>by
  show Bd _ (tot crQ o/2)
  exact (qeL ho hlo).mono (by omega)
 |i+1,h=>by
  rw [qmY h]
  have hm:=hh _ (List.getElem_mem h)
  exact ((qs0 ho hlo hh i (by omega)).sub (qeL hm.1 hm.2)).mono (by rw [Nat.add_mul (i+1) 1];omega)
theorem qBo{o:List P2}{hs:List (List P2)}{n:Nat}(hck:Fun Tryz.prog 73 [.a [.l (pL o),.l (hQ hs)]] [i64 0])(ho: ∀p∈o,BP n p)(hlo:o.length<=100)(hh: ∀h∈hs,(∀p∈h,BP n p)/\h.length<=100)(hn:n<10000)(hlh:hs.length<=8):
  Fun Tryz.prog 18 [.a [.l (pL o),.l (hQ hs)]] [qar (arS o hs),i64 0] :=by
 have hll:(hQ hs).length=hs.length:=by simp
 have hb:=qs0 ho hlo hh
 have hbb: ∀i,i<=hs.length->(i+1)*(100*(4*n+2)+2)<=9*(100*(4*n+2)+2):=fun i hi=>Nat.mul_le_mul_right _ (by omega)
 refine qac (fun t=>t==4||t==2) mixed tOk Tryz.func18 rfl rfl ?_
 conv=>whnf
 refine qaa rfl rfl hck ?_
 conv=>whnf
 refine qbp (by decide) ?_
 conv=>whnf
 refine qaa rfl rfl (qpB o ho (by omega) (by omega)) ?_
 conv=>whnf
 refine qah (fun t=>t==4||t==2) (fun i:Nat=>⟨fr 27 [(1,.d (.p 0 [.l (pL o),.l (hQ hs)])),(2,.ptr 0 0 0),(4,.ptr 1 0 0),(15,.d (.l (hQ hs))),(16,.d (i64 (hQ hs).length)),(17,.d (i64 i))],
  [.box 23 [.d (.v (.bool false)),.d (.v (.string emp)),.d (.v (.string emp))],.box 23 ((qar (arS o (hs.take i))).cells.map .d)]⟩) (fun i=>i<=hs.length) (fun i=>hs.length-i) 0 mixed tOk (by omega) ?_ ?_
 ·refine qag ?_ ?_<;>repeat' (first|exact trivial|exact rfl|apply And.intro)
 ·intro i hi
  have hbi:=hb i hi
  have hbbi:=hbb i hi
  conv=>whnf
  refine qaf (fun hlt=> ?_) (fun hge=> ?_)
  ·have hlt':i<hs.length:=by omega
   have hm:=hh _ (List.getElem_mem hlt')
   have est:=qmY (o:=o) hlt'
   have hw:=qeL hm.1 hm.2
   conv=>whnf
   refine qae (.l (pL hs[i])) (qmP hlt') (by omega) (ql8 _) ?_
   conv=>whnf
   refine qab (qpB _ hm.1 (by omega) (by omega)) ?_
   conv=>whnf
   refine qab (qrG (.mk hbi (by omega)) (.mk hw (by omega))) ?_
   conv=>whnf
   refine qad (by kernel_rfl) ?_
   conv=>whnf
   refine qak (by omega) ?_
   conv=>whnf
   refine ⟨i+1,by omega,by omega, ?_⟩
   rw [est,Int.natCast_succ]
   refine qag ?_ ?_<;>repeat' (first|exact trivial|exact rfl|apply And.intro)
  ·have:i=hs.length:=by omega
   subst this
   rw [List.take_length] at hbi ⊢
   conv=>whnf
   refine ⟨?_, ?_,trivial⟩
   ·conv=>whnf
    exact ⟨rfl,rfl,rfl,trivial⟩
   ·conv=>whnf
theorem qlb(l:List P2)(p:P2):inV l p=0\/inV l p=1\/inV l p= -1:=by
 unfold inV
 split
 ·exact .inl rfl
 ·split
  ·exact .inl rfl
  ·split
   ·exact .inr (.inl rfl)
   ·exact .inr (.inr rfl)
noncomputable def qEc(o:List P2)(hs:List (List P2))(q:P2)(i:Nat):St:=
 ⟨fr 25 [(0,.own 1 0),(1,.d (.p 0 [.l (pL o),.l (hQ hs)])),(11,.d (.l (hQ hs))),(12,.d (i64 (hQ hs).length)),(13,.d (i64 i))],
  [.box 3 [.d (i64 0)],
  .loop .ready none #[11,12] (rfO Tryz.f121.body).1 (rfO Tryz.f121.body).2 (fr 26 [(3,.d (.p 0 (pD q).cells)),(4,.ptr 0 0 0)])]⟩
theorem qvi{o:List P2}{hs:List (List P2)}{q:P2}{n:Nat}(ho: ∀p∈o,BP n p)(hlo:o.length<=100)(hh: ∀h∈hs,(∀p∈h,BP n p)/\h.length<=100)(hq:BP n q)(hn:n<10000)(hlh:hs.length<=8):
  Fun Tryz.prog 121 [.a [.l (pL o),.l (hQ hs)],pD q] [i64 (whV o hs q)] :=by
 have hll:(hQ hs).length=hs.length:=by simp
 have r0:=qlb o q
 refine qac (fun t=>t==4||t==5||t==6||t==7||t==8) mixed tOk Tryz.func121 rfl rfl ?_
 conv=>whnf
 refine qaa rfl rfl (qvY o hs) ?_
 conv=>whnf
 refine qb6 (g:=242) (cap:= [.d (.p 0 [.l (pL o),.l (hQ hs)])]) (fun t=>t==4||t==5||t==6||t==7||t==8) mixed tOk rfl rfl rfl rfl rfl ?_
 conv=>whnf
 refine qb9 (fun t=>t==4||t==5||t==6||t==7||t==8) mixed tOk rfl rfl rfl ?_
 conv=>whnf
 refine qaa rfl rfl (qhU o q ho hq (by omega) (by omega)) ?_
 conv=>whnf
 refine qbF (by decide) ?_
 conv=>whnf
 refine qaf (fun c1=> ?_) (fun c1=> ?_)
 ·rw [show whV o hs q=inV o q by unfold whV;rw [if_pos c1]]
  conv=>whnf
  refine ⟨?_,trivial⟩
  conv=>whnf
 rw [show whV o hs q=whL hs q by unfold whV;rw [if_neg c1]]
 conv=>whnf
 refine qcd (fun t=>t==4||t==5||t==6||t==7||t==8) (fun i:Nat=>qEc o hs q i) (fun i=>i<=hs.length/\whL hs q=whL (hs.drop i) q) (fun i=>hs.length-i) 0 mixed tOk ⟨by omega,rfl⟩ ?_ ?_
 ·refine qaj 2 rfl ?_
  refine qbG ?_ ?_<;>repeat' (first|exact trivial|exact rfl|apply And.intro)
 ·rintro i ⟨hi,heq⟩
  rw [heq]
  conv=>whnf
  refine qaf (fun hlt=> ?_) (fun hge=> ?_)
  ·have hlt':i<hs.length:=by omega
   have hm:=hh _ (List.getElem_mem hlt')
   have r1:=qlb hs[i] q
   rw [List.drop_eq_getElem_cons hlt',whL]
   conv=>whnf
   refine qae (.l (pL hs[i])) (qmP hlt') (by omega) (ql8 _) ?_
   conv=>whnf
   refine qak (by omega) ?_
   conv=>whnf
   refine qb9 (fun t=>t==4||t==5||t==6||t==7||t==8) mixed tOk rfl rfl rfl ?_
   conv=>whnf
   refine qaa rfl rfl (qhU hs[i] q hm.1 hq (by omega) (by omega)) ?_
   conv=>whnf
   refine qaT (by omega) ?_
   conv=>whnf
   refine qak (by omega) ?_
   conv=>whnf
   refine qaf (fun c2=> ?_) (fun c2=> ?_)
   ·rw [if_pos c2]
    conv=>whnf
    refine ⟨?_,trivial⟩
    conv=>whnf
   ·rw [if_neg c2]
    conv=>whnf
    refine qak (by omega) ?_
    conv=>whnf
    refine ⟨i+1,⟨by omega,rfl⟩,by omega, ?_⟩
    unfold qEc
    rw [Int.natCast_succ]
    refine qaj 2 rfl ?_
    refine qbG ?_ ?_<;>repeat' (first|exact trivial|exact rfl|apply And.intro)
  ·have:i=hs.length:=by omega
   subst this
   rw [List.drop_length,whL]
   conv=>whnf
   refine ⟨?_,trivial⟩
   conv=>whnf
theorem qp3{o:List P2}{hs:List (List P2)}{q:P2}{n:Nat}(hck:Fun Tryz.prog 73 [.a [.l (pL o),.l (hQ hs)]] [i64 0])(ho: ∀p∈o,BP n p)(hlo:o.length<=100)(hh: ∀h∈hs,(∀p∈h,BP n p)/\h.length<=100)(hq:BP n q)(hn:n<10000)(hlh:hs.length<=8):
  Fun Tryz.prog 56 [.a [.l (pL o),.l (hQ hs)],pD q] [i64 (whV o hs q),i64 0] :=by
 refine qac (fun t=>false) mixed tOk Tryz.func56 rfl rfl ?_
 conv=>whnf
 refine qaa rfl rfl hck ?_
 conv=>whnf
 refine qbp (by decide) ?_
 conv=>whnf
 refine qaa rfl rfl (qsG (.mk hq.1 (by omega)) (.mk hq.2 (by omega))) ?_
 conv=>whnf
 refine qbp (by decide) ?_
 conv=>whnf
 refine qaa rfl rfl (qvi ho hlo hh hq hn hlh) ?_
 conv=>whnf
 refine ⟨?_, ?_,trivial⟩
 ·conv=>whnf
 ·conv=>whnf
def qry(l:List P2)(p:P2)(i:Nat):Bool:=beB (ix l i) (ix l (i+1)) p
theorem qBQ{l:List P2}{p:P2}{n:Nat}(hl: ∀p∈l,BP n p)(hp:BP n p)(hn:n<1000000)(hlen:l.length<=1000):Fun Tryz.prog 307 [.l (pL l),pD p] [.v (.bool ((List.range l.length).any (qry l p)))] :=by
 have hll:(pL l).length=l.length:=by simp
 refine qac (fun t=>false) mixed tOk Tryz.func307 rfl rfl ?_
 conv=>whnf
 refine qah (fun t=>false) (fun i:Nat=>⟨fr 21 [(0,.d (.l (pL l))),(3,.d (.p 0 (pD p).cells)),(5,.d (i64 i))], []⟩) (fun i=>i<=l.length/\ ∀j,j<i->qry l p j=false) (fun i=>l.length-i) 0 mixed tOk ⟨by omega,fun j hj=>by omega⟩ ?_ ?_
 ·refine qag ?_ ?_<;>repeat' (first|exact trivial|exact rfl|apply And.intro)
 ·rintro i ⟨hi,hno⟩
  conv=>whnf
  refine qaf (fun hlt=> ?_) (fun hge=> ?_)
  ·have hlt':i<l.length:=by omega
   have b1:=hl _ (qbr (l:=l) (k:=i) (by omega))
   have b2:=hl _ (qbr (l:=l) (k:=i+1) (by omega))
   conv=>whnf
   refine qae (pD (ix l i)) (qdW hlt') (by omega) (qaX l) ?_
   conv=>whnf
   refine qab (qfm hlt' hlen) ?_
   conv=>whnf
   refine qab (qdk b1 b2 hp (by omega)) ?_
   conv=>whnf
   refine qad (by kernel_rfl) ?_
   conv=>whnf
   cases hb:beB (ix l i) (ix l (i+1)) p with
   |true=>
    rw [show (List.range l.length).any (qry l p)=true from List.any_eq_true.2 ⟨i,by simpa using hlt',hb⟩]
    conv=>whnf
    refine ⟨?_,trivial⟩
    conv=>whnf
   |false=>
    conv=>whnf
    refine qak (by omega) ?_
    conv=>whnf
    refine ⟨i+1,⟨by omega,fun j hj=> ?_⟩,by omega, ?_⟩
    ·by_cases e:j=i
     ·subst e;exact hb
     ·exact hno j (by omega)
    ·rw [Int.natCast_succ]
     refine qag ?_ ?_<;>repeat' (first|exact trivial|exact rfl|apply And.intro)
  ·have hiE:i=l.length:=by omega
   rw [show (List.range l.length).any (qry l p)=false by
    rw [List.any_eq_false];intro j hj;rw [hno j (by have:=List.mem_range.1 hj;omega)];decide]
   conv=>whnf
   refine ⟨?_,trivial⟩
   conv=>whnf
theorem qpD(a b p:P2):odE p (a,b)=if abB p a=abB p b then false else if abB p b then decide (0<orI a b p) else decide (0<orI b a p):=by
 unfold odE swE
 simp only
 cases ha:abB p a<;>cases hb:abB p b<;>simp [ha,hb]
theorem qyM{l:List P2}{p:P2}{n:Nat}(hl: ∀p∈l,BP n p)(hp:BP n p)(hn:n<1000000)(hlen:l.length<=1000):Fun Tryz.prog 308 [.l (pL l),pD p] [.v (.bool (odB l p))] :=by
 have hll:(pL l).length=l.length:=by simp
 have qp:=hp.q (by omega)
 refine qac (fun t=>t==7||t==8) mixed tOk Tryz.func308 rfl rfl ?_
 conv=>whnf
 refine qah (fun t=>t==7||t==8) (fun i:Nat=>⟨fr 50 [(0,.d (.l (pL l))),(3,.d (.p 0 (pD p).cells)),(5,.d (.v (.bool (((cyc l).take i).foldl (odF p) false)))),(6,.d (i64 i))], []⟩) (fun i=>i<=l.length) (fun i=>l.length-i) 0 mixed tOk (by omega) ?_ ?_
 ·refine qag ?_ ?_<;>repeat' (first|exact trivial|exact rfl|apply And.intro)
 ·intro i hi
  conv=>whnf
  refine qaf (fun hlt=> ?_) (fun hge=> ?_)
  ·have hlt':i<l.length:=by omega
   have hm:=qbT hlt'
   have b1:=hl l[i] (List.getElem_mem _)
   have b2:=hl (l[(i+1)%l.length]'hm) (List.getElem_mem _)
   have hcy:=qcX hlt'
   have hfo:((cyc l).take (i+1)).foldl (odF p) false=odF p (((cyc l).take i).foldl (odF p) false) (l[i],l[(i+1)%l.length]'hm):=by rw [hcy,List.foldl_append];rfl
   have hnx:=qjg hlt' hlen
   have hgt:=qgq hlt'
   generalize ((cyc l).take i).foldl (odF p) false=z at*
   generalize l[i] =a at*
   generalize l[(i+1)%l.length] =b at*
   have q1:=b1.q (by omega)
   have q2:=b2.q (by omega)
   conv=>whnf
   refine qae (pD a) hgt (by omega) (qaX l) ?_
   conv=>whnf
   refine qab hnx ?_
   conv=>whnf
   refine qad (by kernel_rfl) ?_
   conv=>whnf
   refine qab (qmT q1.2 qp.2) ?_
   conv=>whnf
   refine qab (qmT q2.2 qp.2) ?_
   conv=>whnf
   refine qad (by kernel_rfl) ?_
   conv=>whnf
   have ga:bz (decide (qdo a.2 p.2>0))=abB p a:=by rw [qay];rfl
   have gb:bz (decide (qdo b.2 p.2>0))=abB p b:=by rw [qay];rfl
   rw [ga,gb]
   have hoe:=qpD a b p
   generalize abB p a=za at*
   generalize abB p b=zb at*
   refine qal (fun c1=> ?_) (fun c1=> ?_)
   ·have hz:za=zb:=by rw [qay] at c1;simpa using c1
    rw [if_pos hz] at hoe
    have ho:odF p z (a,b)=z:=by unfold odF;rw [hoe];rfl
    rw [ho] at hfo
    conv=>whnf
    refine qak (by omega) ?_
    conv=>whnf
    refine ⟨i+1,by omega,by omega, ?_⟩
    rw [hfo,Int.natCast_succ]
    refine qaj 0 rfl ?_
    refine qaj 1 rfl ?_
    refine qag ?_ ?_<;>repeat' (first|exact trivial|exact rfl|apply And.intro)
   ·have hz:za≠zb:=by rw [qay] at c1;simpa using c1
    rw [if_neg hz] at hoe
    conv=>whnf
    refine qal (fun c2=> ?_) (fun c2=> ?_)
    ·rw [if_pos c2] at hoe
     conv=>whnf
     refine qaa rfl rfl (qbZ b1 b2 hp (by omega)) ?_
     conv=>whnf
     refine qaf (fun c3=> ?_) (fun c3=> ?_)
     ·rw [decide_eq_true (show 0<orI a b p from c3)] at hoe
      have ho:odF p z (a,b)= !z:=by unfold odF;rw [hoe];rfl
      rw [ho] at hfo
      conv=>whnf
      refine qak (by omega) ?_
      conv=>whnf
      refine ⟨i+1,by omega,by omega, ?_⟩
      rw [hfo,Int.natCast_succ]
      refine qaj 0 rfl ?_
      refine qaj 1 rfl ?_
      refine qag ?_ ?_<;>repeat' (first|exact trivial|exact rfl|apply And.intro)
     ·rw [decide_eq_false (show¬0<orI a b p from c3)] at hoe
      have ho:odF p z (a,b)=z:=by unfold odF;rw [hoe];rfl
      rw [ho] at hfo
      conv=>whnf
      refine qak (by omega) ?_
      conv=>whnf
      refine ⟨i+1,by omega,by omega, ?_⟩
      rw [hfo,Int.natCast_succ]
      refine qaj 0 rfl ?_
      refine qaj 1 rfl ?_
      refine qag ?_ ?_<;>repeat' (first|exact trivial|exact rfl|apply And.intro)
    ·rw [if_neg (by rw [c2];decide)] at hoe
     conv=>whnf
     refine qaa rfl rfl (qbZ b2 b1 hp (by omega)) ?_
     conv=>whnf
     refine qaf (fun c3=> ?_) (fun c3=> ?_)
     ·rw [decide_eq_true (show 0<orI b a p from c3)] at hoe
      have ho:odF p z (a,b)= !z:=by unfold odF;rw [hoe];rfl
      rw [ho] at hfo
      conv=>whnf
      refine qak (by omega) ?_
      conv=>whnf
      refine ⟨i+1,by omega,by omega, ?_⟩
      rw [hfo,Int.natCast_succ]
      refine qaj 0 rfl ?_
      refine qaj 1 rfl ?_
      refine qag ?_ ?_<;>repeat' (first|exact trivial|exact rfl|apply And.intro)
     ·rw [decide_eq_false (show¬0<orI b a p from c3)] at hoe
      have ho:odF p z (a,b)=z:=by unfold odF;rw [hoe];rfl
      rw [ho] at hfo
      conv=>whnf
      refine qak (by omega) ?_
      conv=>whnf
      refine ⟨i+1,by omega,by omega, ?_⟩
      rw [hfo,Int.natCast_succ]
      refine qaj 0 rfl ?_
      refine qaj 1 rfl ?_
      refine qag ?_ ?_<;>repeat' (first|exact trivial|exact rfl|apply And.intro)
  ·have hiE:i=l.length:=by omega
   subst hiE
   conv=>whnf
   refine ⟨?_,trivial⟩
   conv=>whnf
   unfold odB
   rw [show (cyc l).take l.length=cyc l from by rw [<-qbj l];exact List.take_length]
def sdI(l:List P2)(p:P2):Int:=if (List.range l.length).any (qry l p) then 0 else if odB l p then 1 else-1
theorem qun{l:List P2}{p:P2}{n:Nat}(hl: ∀p∈l,BP n p)(hp:BP n p)(hn:n<1000000)(hlen:l.length<=1000):Fun Tryz.prog 218 [.l (pL l),pD p] [i64 (sdI l p)] :=by
 have h1:=qBQ hl hp hn hlen
 have h2:=qyM hl hp hn hlen
 unfold sdI
 cases ho:(List.range l.length).any (qry l p) with
 |true=>
  rw [ho] at h1
  refine qac (fun t=>false) mixed tOk Tryz.func218 rfl rfl ?_
  conv=>whnf
  refine qaa rfl rfl h1 ?_
  conv=>whnf
  refine ⟨?_,trivial⟩
  conv=>whnf
  rfl
 |false=>
  rw [ho] at h1
  cases hd:odB l p with
  |true=>
   rw [hd] at h2
   refine qac (fun t=>false) mixed tOk Tryz.func218 rfl rfl ?_
   conv=>whnf
   refine qaa rfl rfl h1 ?_
   conv=>whnf
   refine qaa rfl rfl h2 ?_
   conv=>whnf
   refine ⟨?_,trivial⟩
   conv=>whnf
   rfl
  |false=>
   rw [hd] at h2
   refine qac (fun t=>false) mixed tOk Tryz.func218 rfl rfl ?_
   conv=>whnf
   refine qaa rfl rfl h1 ?_
   conv=>whnf
   refine qaa rfl rfl h2 ?_
   conv=>whnf
   refine ⟨?_,trivial⟩
   conv=>whnf
   rfl
def rmB(a b c d:P2):Bool:=beB a b c||beB a b d||beB c d a||beB c d b||(decide (orI a b c*orI a b d<0)&&decide (orI c d a*orI c d b<0))
theorem qi7(a b c:P2): -1<=orI a b c/\orI a b c<=1:=by
 unfold orI
 rw [qdI]
 unfold qq7
 split
 ·omega
 ·split<;>omega
theorem qqh{x y:Int}(hx: -1<=x/\x<=1)(hy: -1<=y/\y<=1): -1<=x*y/\x*y<=1:=by
 have h1:x= -1\/x=0\/x=1:=by omega
 have h2:y= -1\/y=0\/y=1:=by omega
 rcases h1 with rfl|rfl|rfl<;>rcases h2 with rfl|rfl|rfl<;>decide
theorem qst{a b c d:P2}{n:Nat}(ha:BP n a)(hb:BP n b)(hc:BP n c)(hd:BP n d)(hn:n<1000000):Fun Tryz.prog 270 [pD a,pD b,pD c,pD d] [.v (.bool (rmB a b c d))] :=by
 have k1:=qdk ha hb hc (by omega)
 have k2:=qdk ha hb hd (by omega)
 have k3:=qdk hc hd ha (by omega)
 have k4:=qdk hc hd hb (by omega)
 have r1:=qqh (qi7 a b c) (qi7 a b d)
 have r2:=qqh (qi7 c d a) (qi7 c d b)
 unfold rmB
 generalize beB a b c=z1 at*
 generalize beB a b d=z2 at*
 generalize beB c d a=z3 at*
 generalize beB c d b=z4 at*
 cases z1 with
 |true=>
  refine qac (fun t=>false) mixed tOk Tryz.func270 rfl rfl ?_
  conv=>whnf
  refine qaa rfl rfl k1 ?_
  conv=>whnf
  refine ⟨?_,trivial⟩
  conv=>whnf
  try rfl
 |false=>
 cases z2 with
 |true=>
  refine qac (fun t=>false) mixed tOk Tryz.func270 rfl rfl ?_
  conv=>whnf
  refine qaa rfl rfl k1 ?_
  conv=>whnf
  refine qaa rfl rfl k2 ?_
  conv=>whnf
  refine ⟨?_,trivial⟩
  conv=>whnf
  try rfl
 |false=>
 cases z3 with
 |true=>
  refine qac (fun t=>false) mixed tOk Tryz.func270 rfl rfl ?_
  conv=>whnf
  refine qaa rfl rfl k1 ?_
  conv=>whnf
  refine qaa rfl rfl k2 ?_
  conv=>whnf
  refine qaa rfl rfl k3 ?_
  conv=>whnf
  refine ⟨?_,trivial⟩
  conv=>whnf
  try rfl
 |false=>
 cases z4 with
 |true=>
  refine qac (fun t=>false) mixed tOk Tryz.func270 rfl rfl ?_
  conv=>whnf
  refine qaa rfl rfl k1 ?_
  conv=>whnf
  refine qaa rfl rfl k2 ?_
  conv=>whnf
  refine qaa rfl rfl k3 ?_
  conv=>whnf
  refine qaa rfl rfl k4 ?_
  conv=>whnf
  refine ⟨?_,trivial⟩
  conv=>whnf
  try rfl
 |false=>
  refine qac (fun t=>false) mixed tOk Tryz.func270 rfl rfl ?_
  conv=>whnf
  refine qaa rfl rfl k1 ?_
  conv=>whnf
  refine qaa rfl rfl k2 ?_
  conv=>whnf
  refine qaa rfl rfl k3 ?_
  conv=>whnf
  refine qaa rfl rfl k4 ?_
  conv=>whnf
  refine qab (qbZ ha hb hc (by omega)) ?_
  conv=>whnf
  refine qab (qbZ ha hb hd (by omega)) ?_
  conv=>whnf
  refine qak (by omega) ?_
  conv=>whnf
  refine qaf (fun c1=> ?_) (fun c1=> ?_)
  ·conv=>whnf
   refine qab (qbZ hc hd ha (by omega)) ?_
   conv=>whnf
   refine qab (qbZ hc hd hb (by omega)) ?_
   conv=>whnf
   refine qak (by omega) ?_
   conv=>whnf
   refine qad (by kernel_rfl) ?_
   conv=>whnf
   refine ⟨?_,trivial⟩
   conv=>whnf
   rw [qay,decide_eq_true c1]
   rfl
  ·conv=>whnf
   refine qad (by kernel_rfl) ?_
   conv=>whnf
   refine ⟨?_,trivial⟩
   conv=>whnf
   rw [decide_eq_false c1]
   rfl
def stB(l:List P2)(i:Nat):Bool:=decide (orI (ix l i) (ix l (i+1)) (ix l (i+2))=0)
theorem qle{l:List P2}{n:Nat}(hl: ∀p∈l,BP n p)(hn:n<1000000)(hlen:l.length<=1000):Fun Tryz.prog 198 [.l (pL l)] [.v (.bool ((List.range l.length).any (stB l)))] :=by
 have hll:(pL l).length=l.length:=by simp
 refine qac (fun t=>false) mixed tOk Tryz.func198 rfl rfl ?_
 conv=>whnf
 refine qah (fun t=>false) (fun i:Nat=>⟨fr 27 [(0,.d (.l (pL l))),(3,.d (i64 (pL l).length)),(4,.d (i64 i))], []⟩) (fun i=>i<=l.length/\ ∀j,j<i->stB l j=false) (fun i=>l.length-i) 0 mixed tOk ⟨by omega,fun j hj=>by omega⟩ ?_ ?_
 ·refine qag ?_ ?_<;>repeat' (first|exact trivial|exact rfl|apply And.intro)
 ·rintro i ⟨hi,hno⟩
  conv=>whnf
  refine qaf (fun hlt=> ?_) (fun hge=> ?_)
  ·have hlt':i<l.length:=by omega
   have b0:=hl _ (qbr (l:=l) (k:=i) (by omega))
   have b1:=hl _ (qbr (l:=l) (k:=i+1) (by omega))
   have b2:=hl _ (qbr (l:=l) (k:=i+2) (by omega))
   have hmn:(i+1)%l.length<l.length:=Nat.mod_lt _ (by omega)
   have hnx:=qfm hmn hlen
   have e2:ix l ((i+1)%l.length+1)=ix l (i+2):=by
    unfold ix
    rw [Nat.mod_add_mod]
   rw [e2] at hnx
   have e3:Int.tmod ((i:Int)+1) ((pL l).length:Int)=(((i+1)%l.length:Nat):Int):=by
    rw [qcq,show ((i:Int)+1)=((i+1:Nat):Int) from rfl,qdy]
   conv=>whnf
   refine qae (pD (ix l i)) (qdW hlt') (by omega) (qaX l) ?_
   conv=>whnf
   refine qab (qfm hlt' hlen) ?_
   conv=>whnf
   refine qak (by omega) ?_
   conv=>whnf
   refine qak (by omega) ?_
   conv=>whnf
   rw [<-e3] at hnx
   refine qab hnx ?_
   conv=>whnf
   refine qab (qbZ b0 b1 b2 (by omega)) ?_
   conv=>whnf
   refine qad (by kernel_rfl) ?_
   conv=>whnf
   refine qaU (fun c1=> ?_) (fun c1=> ?_)
   ·rw [show (List.range l.length).any (stB l)=true from List.any_eq_true.2 ⟨i,by simpa using hlt',by unfold stB;exact decide_eq_true c1⟩]
    conv=>whnf
    refine ⟨?_,trivial⟩
    conv=>whnf
   ·conv=>whnf
    refine qak (by omega) ?_
    conv=>whnf
    refine ⟨i+1,⟨by omega,fun j hj=> ?_⟩,by omega, ?_⟩
    ·by_cases e:j=i
     ·subst e;unfold stB;exact decide_eq_false c1
     ·exact hno j (by omega)
    ·rw [Int.natCast_succ]
     refine qag ?_ ?_<;>repeat' (first|exact trivial|exact rfl|apply And.intro)
  ·have hiE:i=l.length:=by omega
   rw [show (List.range l.length).any (stB l)=false by
    rw [List.any_eq_false];intro j hj;rw [hno j (by have:=List.mem_range.1 hj;omega)];decide]
   conv=>whnf
   refine ⟨?_,trivial⟩
   conv=>whnf
theorem qsm{l:List (RD×RD)}(hl: ∀p∈l,SzP p)(hlen:l.length<=100000):Fun Tryz.prog 197 [.l (rL l)] [.v (.bool (l.all okR))] :=by
 have hll:(rL l).length=l.length:=by simp
 refine qac (fun t=>false) mixed tOk Tryz.func197 rfl rfl ?_
 conv=>whnf
 refine qah (fun t=>false) (fun i:Nat=>⟨fr 16 [(0,.d (.l (rL l))),(3,.d (i64 i))], []⟩) (fun i=>i<=l.length/\ ∀j (h:j<l.length),j<i->okR l[j] =true) (fun i=>l.length-i) 0 mixed tOk ⟨by omega,fun j _ hj=>by omega⟩ ?_ ?_
 ·refine qag ?_ ?_<;>repeat' (first|exact trivial|exact rfl|apply And.intro)
 ·rintro i ⟨hi,hno⟩
  conv=>whnf
  refine qaf (fun hlt=> ?_) (fun hge=> ?_)
  ·have hlt':i<l.length:=by omega
   have hs:=hl _ (List.getElem_mem hlt')
   conv=>whnf
   refine qae (pR l[i]) (qh7 hlt') (by omega) (qhJ l) ?_
   conv=>whnf
   refine qaa rfl rfl (qfp l[i].1 l[i].2 hs.1 hs.2) ?_
   conv=>whnf
   refine qat (fun c1=> ?_) (fun c1=> ?_)
   ·rw [show l.all okR=false by
     rw [List.all_eq_false]
     exact ⟨l[i],List.getElem_mem hlt',by unfold okR;rw [decide_eq_false c1];decide⟩]
    conv=>whnf
    refine ⟨?_,trivial⟩
    conv=>whnf
   ·conv=>whnf
    refine qak (by omega) ?_
    conv=>whnf
    refine ⟨i+1,⟨by omega,fun j h hj=> ?_⟩,by omega, ?_⟩
    ·by_cases e:j=i
     ·subst e;unfold okR;exact decide_eq_true c1
     ·exact hno j h (by omega)
    ·rw [Int.natCast_succ]
     refine qag ?_ ?_<;>repeat' (first|exact trivial|exact rfl|apply And.intro)
  ·have hiE:i=l.length:=by omega
   rw [show l.all okR=true by
    rw [List.all_eq_true];intro p hp;obtain ⟨j,hj,rfl⟩:=List.getElem_of_mem hp;exact hno j hj (by omega)]
   conv=>whnf
   refine ⟨?_,trivial⟩
   conv=>whnf
end Go.Nv
end
