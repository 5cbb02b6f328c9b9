import Derived.Test.YtlmmifgminkdkaaGreatNvD5
import Derived.Test.YtlmmifgminkdkaaGreatNvD1
set_option linter.all false
set_option maxRecDepth 100000
section
namespace Go.Nv
open Go.Proofs Nw
theorem qs5{p q:Rat}:0<qdr p q↔q<p:=by
 have:=qml (p:=p) (q:=q)
 constructor
 ·intro h
  have h1: ¬p<=q:=fun h2=>by have:=this.2 h2;omega
  grind
 ·intro h
  have h1: ¬qdr p q<=0:=fun h2=>by have:=this.1 h2;grind
  omega
theorem qgi{p q:P2}:abB p q=true↔p.2<q.2:=by unfold abB;rw [decide_eq_true_eq,qs5]
theorem qqw{a b c:P2}:0<orI a b c↔0<orQ a b c:=by
 unfold orI;rw [qde];unfold qpG
 by_cases h1:orQ a b c<0
 ·rw [if_pos h1];constructor<;>intro h
  ·exact absurd h (by decide)
  ·grind
 ·rw [if_neg h1]
  by_cases h2:0<orQ a b c
  ·rw [if_pos h2];exact ⟨fun _=>h2,fun _=>by decide⟩
  ·rw [if_neg h2];constructor<;>intro h
   ·exact absurd h (by decide)
   ·exact absurd h h2
theorem qwE{p:P2}{e:P2×P2}:odE p e=true↔crI e.1 e.2 p≠0:=by
 unfold odE swE crI
 by_cases h1:abB p e.1=true
 ·rw [if_pos h1]
  have h1':=qgi.1 h1
  rw [if_neg (by grind),Bool.and_eq_true,Bool.and_eq_true,decide_eq_true_eq,qqw,qgi,Bool.not_eq_true', <-Bool.not_eq_true,qgi]
  simp only
  by_cases h2:e.2.2<=p.2/\p.2<e.1.2/\0<orQ e.2 e.1 p
  ·rw [if_pos h2];exact ⟨fun _=>by decide,fun _=>⟨by grind,h2.2⟩⟩
  ·rw [if_neg h2];exact ⟨fun h=>absurd ⟨by grind,h.2⟩ h2,fun h=>absurd rfl h⟩
 ·rw [if_neg h1]
  have h1': ¬p.2<e.1.2:=fun h=>h1 (qgi.2 h)
  rw [Bool.and_eq_true,Bool.and_eq_true,decide_eq_true_eq,qqw,qgi,Bool.not_eq_true', <-Bool.not_eq_true,qgi]
  by_cases h2:e.1.2<=p.2/\p.2<e.2.2/\0<orQ e.1 e.2 p
  ·rw [if_pos h2];exact ⟨fun _=>by decide,fun _=>⟨h1',h2.2⟩⟩
  ·rw [if_neg h2,if_neg (by grind)];exact ⟨fun h=>absurd ⟨by grind,h.2⟩ h2,fun h=>absurd rfl h⟩
theorem qwt(u v p:P2):crI u v p=0\/crI u v p=1\/crI u v p= -1:=by
 unfold crI
 split
 ·exact .inr (.inl rfl)
 ·split
  ·exact .inr (.inr rfl)
  ·exact .inl rfl
theorem qsl(b o:Bool)(c s:Int)(r:c=0\/c=1\/c= -1)(h:o=true↔c≠0):((if o=true then !b else b)^^decide (s%2≠0))=(b^^decide ((c+s)%2≠0)):=by
 by_cases hs:s%2=0
 ·rw [decide_eq_false (show¬s%2≠0 by omega)]
  rcases r with r|r|r
  ·have:o=false:=by cases o with
    |false=>rfl
    |true=>exact absurd r (h.1 rfl)
   rw [this,r,decide_eq_false (show¬(0+s)%2≠0 by omega)];cases b<;>rfl
  ·rw [h.2 (by omega),r,decide_eq_true (show (1+s)%2≠0 by omega)];cases b<;>rfl
  ·rw [h.2 (by omega),r,decide_eq_true (show (-1+s)%2≠0 by omega)];cases b<;>rfl
 ·rw [decide_eq_true (show s%2≠0 by omega)]
  rcases r with r|r|r
  ·have:o=false:=by cases o with
    |false=>rfl
    |true=>exact absurd r (h.1 rfl)
   rw [this,r,decide_eq_true (show (0+s)%2≠0 by omega)];cases b<;>rfl
  ·rw [h.2 (by omega),r,decide_eq_false (show¬(1+s)%2≠0 by omega)];cases b<;>rfl
  ·rw [h.2 (by omega),r,decide_eq_false (show¬(-1+s)%2≠0 by omega)];cases b<;>rfl
theorem qpi(p:P2): ∀(E:List (P2×P2)) (b:Bool),E.foldl (odF p) b=(b^^decide ((qgU (fun u v=>crI u v p) E)%2≠0))
 | [],b=>by simp [qgU]
 |e::E,b=>by
  rw [List.foldl_cons,qpi p E]
  unfold odF
  exact qsl b _ _ _ (qwt e.1 e.2 p) qwE
theorem qux(l:List P2)(p:P2):odB l p=decide (wn l p%2≠0):=by
 unfold odB
 rw [qpi];simp only [Bool.false_xor];rfl
theorem qgS{a b p:P2}(hab:a≠b)(ho:orQ a b p=0)(h1:leP a p)(h2:leP p b): ∃t:Rat,0<=t/\t<=1/\lin a b t=p:=by
 unfold leP at h1 h2
 simp only [orQ] at ho
 by_cases hx:a.1=b.1
 ·have hy:a.2≠b.2:=fun h=>hab (Prod.ext hx h)
  have hz:(b.2-a.2)*(p.1-a.1)=0:=by rw [hx] at ho ⊢;grind
  have hpx:p.1=a.1:=by
   rcases Rat.mul_eq_zero.1 hz with h|h
   ·exact absurd (by grind) hy
   ·grind
  have y1:a.2<=p.2:=by grind
  have y2:p.2<=b.2:=by grind
  obtain ⟨t0,t1⟩:=qbH (x:=p.2-a.2) (y:=b.2-a.2) (by grind) (by grind) (by grind)
  refine ⟨_,t0,t1,Prod.ext ?_ ?_⟩
  ·simp only [lin];rw [hx,hpx];grind
  ·simp only [lin]
   have:b.2-a.2≠0:=by grind
   grind
 ·have x1:a.1<=p.1:=by grind
  have x2:p.1<=b.1:=by grind
  obtain ⟨t0,t1⟩:=qbH (x:=p.1-a.1) (y:=b.1-a.1) (by grind) (by grind) (by grind)
  have hn:b.1-a.1≠0:=by grind
  refine ⟨_,t0,t1,Prod.ext ?_ ?_⟩
  ·simp only [lin];grind
  ·simp only [lin];grind
theorem qb5{p q:P2}:cmP p q=0↔p=q:=by
 unfold cmP
 by_cases h:qdr p.1 q.1=0
 ·rw [if_pos h,qbB]
  have:=qbB.1 h
  exact ⟨fun h2=>Prod.ext this h2,fun h2=>by rw [h2]⟩
 ·rw [if_neg h]
  exact ⟨fun h2=>absurd h2 h,fun h2=>absurd (qbB.2 (by rw [h2])) h⟩
theorem qro{a b p:P2}(hab:a≠b):qoB a b p=true↔ ∃t:Rat,0<=t/\t<=1/\lin a b t=p:=by
 unfold qoB
 rw [Bool.and_eq_true,Bool.and_eq_true,Bool.or_eq_true,decide_eq_true_eq,decide_eq_true_eq,decide_eq_true_eq,decide_eq_true_eq,qfI]
 constructor
 ·rintro ⟨ho,hp,_⟩
  rcases qd8 a p with h1|h1|h1<;>rcases qd8 p b with h2|h2|h2
  ·exact qgS hab ho (qby.1 (by omega)) (qby.1 (by omega))
  ·exact ⟨1,by grind,by grind,by rw [qa6];exact (qb5.1 h2).symm⟩
  ·rw [h1,h2] at hp;exact absurd hp (by decide)
  ·exact ⟨0,by grind,by grind,by rw [qaw];exact qb5.1 h1⟩
  ·exact ⟨0,by grind,by grind,by rw [qaw];exact qb5.1 h1⟩
  ·exact ⟨0,by grind,by grind,by rw [qaw];exact qb5.1 h1⟩
  ·rw [h1,h2] at hp;exact absurd hp (by decide)
  ·exact ⟨1,by grind,by grind,by rw [qa6];exact (qb5.1 h2).symm⟩
  ·have k1:leP p a:=qei fun h=>by have:=qby.2 h;omega
   have k2:leP b p:=qei fun h=>by have:=qby.2 h;omega
   obtain ⟨t,t0,t1,e⟩:=qgS (a:=b) (b:=a) (fun h=>hab h.symm) (by simp only [orQ] at ho ⊢;grind) k2 k1
   exact ⟨1-t,by grind,by grind,by rw [<-e];exact (qcl a b t).symm⟩
 ·rintro ⟨t,t0,t1,rfl⟩
  refine ⟨by simp only [orQ,lin];grind, ?_,.inl fun h=>hab (qb5.1 h)⟩
  rcases qk3 a b with h|h
  ·obtain ⟨k1,k2⟩:=qjb h t0 t1
   have c1:=qby.2 k1
   have c2:=qby.2 k2
   rcases qd8 a (lin a b t) with h1|h1|h1<;>rcases qd8 (lin a b t) b with h2|h2|h2<;>rw [h1,h2] <;>first|decide|omega
  ·obtain ⟨k1,k2⟩:=qjb h (t:=1-t) (by grind) (by grind)
   rw [qcl] at k1 k2
   have e:(1:Rat)-(1-t)=t:=by grind
   rw [e] at k1 k2
   --a point not greater,and not less
   have g1:cmP a (lin a b t)=0\/0<cmP a (lin a b t):=by
    rcases qd8 a (lin a b t) with h1|h1|h1
    ·have:=qby.1 (show cmP a (lin a b t)<=0 by omega)
     have:a=lin a b t:=by
      unfold leP at this k2
      generalize lin a b t=z at*
      exact Prod.ext (by grind) (by grind)
     exact .inl (qb5.2 this)
    ·exact .inl h1
    ·exact .inr (by omega)
   have g2:cmP (lin a b t) b=0\/0<cmP (lin a b t) b:=by
    rcases qd8 (lin a b t) b with h1|h1|h1
    ·have:=qby.1 (show cmP (lin a b t) b<=0 by omega)
     have:lin a b t=b:=by
      unfold leP at this k1
      generalize lin a b t=z at*
      exact Prod.ext (by grind) (by grind)
     exact .inl (qb5.2 this)
    ·exact .inl h1
    ·exact .inr (by omega)
   rcases g1 with g1|g1
   ·rw [g1];omega
   ·rcases g2 with g2|g2
    ·rw [g2];omega
    ·exact Int.mul_nonneg (by omega) (by omega)
theorem RgOk.edge_ne{l:List P2}(h:RgOk l){e:P2×P2}(he:e∈cyc l):e.1≠e.2:=by
 obtain ⟨i,hi,rfl⟩:=qiX he
 exact h.ne i
theorem RgOk.onB{l:List P2}(h:RgOk l)(p:P2):onB l p=false↔qmi l p:=by
 unfold Nv.onB
 rw [List.any_eq_false]
 constructor
 ·intro ho e he t t0 t1 heq
  exact ho e he ((qro (h.edge_ne he)).2 ⟨t,t0,t1,heq⟩)
 ·intro ho e he hb
  obtain ⟨t,t0,t1,heq⟩:=(qro (h.edge_ne he)).1 hb
  exact ho e he t t0 t1 heq
theorem RgOk.inV{l:List P2}(h:RgOk l)(p:P2):(inV l p=0/\ ¬qmi l p)\/(inV l p=1/\qmi l p/\wn l p=1)\/(inV l p= -1/\qmi l p/\wn l p=0):=by
 have hz:rgE l=0:=qa3.2 h
 unfold Nv.inV
 rw [if_neg (fun hh=>hh hz)]
 by_cases ho:Nv.onB l p=true
 ·rw [if_pos ho];left
  refine ⟨rfl,fun hoff=> ?_⟩
  rw [(h.onB p).2 hoff] at ho;exact absurd ho (by decide)
 ·rw [if_neg ho]
  have hoff:=(h.onB p).1 (by simpa using ho)
  right
  rcases h.simp.wn01 h.area hoff with e|e
  ·right
   rw [qux,e,if_neg (by decide)]
   exact ⟨rfl,hoff,rfl⟩
  ·left
   rw [qux,e,if_pos (by decide)]
   exact ⟨rfl,hoff,rfl⟩
theorem qkD{a b:List P2}(ha:RgOk a)(hb:RgOk b)(h:mtR a b=false):Apart a b:=by
 unfold mtR at h
 rw [List.any_eq_false] at h
 intro e he f hf
 have h1:=h e he
 rw [Bool.not_eq_true,List.any_eq_false] at h1
 have h2:=h1 f hf
 exact qhb (by simpa using h2) (ha.edge_ne he) (hb.edge_ne hf)
theorem qg7{l:List P2}(h:RgOk l):ix l 0∈l:=qbf (by have:=h.len;omega)
theorem qlL{a b:List P2}(ha:RgOk a)(hb:RgOk b)(hab:Apart a b):wiB a b=decide (wn b (ix a 0)=1):=by
 have hi:inE b=0:=by unfold inE;rw [qa3.2 hb];rfl
 have hoff:qmi b (ix a 0):=by
  obtain ⟨e,he,e1⟩:=qfW (qg7 ha)
  have:=hab.off he (t:=0) (by grind) (by grind)
  rw [qaw,e1] at this;exact this
 unfold wiB
 rw [hi,decide_eq_true rfl]
 rcases hb.inV (ix a 0) with ⟨e,h⟩|⟨e,_,h⟩|⟨e,_,h⟩
 ·exact absurd hoff h
 ·rw [e,h];rfl
 ·rw [e,h];rfl
theorem qqm{o:List P2}(ho:RgOk o): ∀(hs:List (List (RD×RD))) (pre:List (List P2)),hoL o pre hs=0->(∀x∈pre,RgOk x)->
  (∀h∈hs.map (List.map vP),RgOk h/\Apart o h/\ ∃p∈h,wn o p≠0)/\(∀x∈pre,∀h∈hs.map (List.map vP),Aside x h)/\(hs.map (List.map vP)).Pairwise Aside
 | [],pre,_,_=>⟨by simp,by simp,List.Pairwise.nil⟩
 |h::hs,pre,e,hpre=>by
  rw [hoL] at e
  split at e
  ·rename_i h1;exact absurd e h1
  rename_i h1
  split at e
  ·rename_i h2;exact absurd e h2
  rename_i h2
  have h1:rgR h=0:=Classical.not_not.1 h1
  have h2:hoE o pre (h.map vP)=0:=Classical.not_not.1 h2
  have hr:RgOk (h.map vP):=qa3.1 (qbk h1).2.1
  unfold hoE at h2
  split at h2
  ·exact absurd h2 (by decide)
  rename_i a1
  split at h2
  ·exact absurd h2 (by decide)
  rename_i a2
  split at h2
  ·exact absurd h2 (by decide)
  rename_i a3
  have ap:Apart (h.map vP) o:=qkD hr ho (by
   cases hb:mtR (h.map vP) o with
   |false=>rfl
   |true=>exact absurd (.inl hb) a1)
  have apx: ∀x∈pre,Apart (h.map vP) x:=fun x hx=>qkD hr (hpre x hx) (by
   cases hb:mtR (h.map vP) x with
   |false=>rfl
   |true=>exact absurd (.inr (List.any_eq_true.2 ⟨x,hx,hb⟩)) a1)
  have hin:wn o (ix (h.map vP) 0)≠0:=by
   have hw:wiB (h.map vP) o=true:=by simpa using a2
   rw [qlL hr ho ap,decide_eq_true_eq] at hw
   omega
  have off0: ∀{a b:List P2},RgOk a->Apart a b->qmi b (ix a 0):=fun ha hab=>by
   obtain ⟨e,he,e1⟩:=qfW (qg7 ha)
   have:=hab.off he (t:=0) (by grind) (by grind)
   rw [qaw,e1] at this;exact this
  have asd: ∀x∈pre,Aside x (h.map vP):=fun x hx=>by
   have hx':=hpre x hx
   have hap:=apx x hx
   have hz:(wiB (h.map vP) x||wiB x (h.map vP))=false:=by
    cases hb:(wiB (h.map vP) x||wiB x (h.map vP)) with
    |false=>rfl
    |true=>exact absurd (List.any_eq_true.2 ⟨x,hx,hb⟩) a3
   rw [Bool.or_eq_false_iff,qlL hr hx' hap,qlL hx' hr hap.symm,decide_eq_false_iff_not,decide_eq_false_iff_not] at hz
   refine ⟨hap.symm,⟨ix (h.map vP) 0,qg7 hr, ?_⟩,⟨ix x 0,qg7 hx', ?_⟩⟩
   ·rcases hx'.simp.wn01 hx'.area (off0 hr hap) with e|e
    ·exact e
    ·exact absurd e hz.1
   ·rcases hr.simp.wn01 hr.area (off0 hx' hap.symm) with e|e
    ·exact e
    ·exact absurd e hz.2
  obtain ⟨i1,i2,i3⟩:=qqm ho hs (pre++ [h.map vP]) e (fun x hx=>by
   rcases List.mem_append.1 hx with hx|hx
   ·exact hpre x hx
   ·rw [List.mem_singleton.1 hx];exact hr)
  refine ⟨fun k hk=> ?_,fun x hx k hk=> ?_, ?_⟩
  ·rw [List.map_cons] at hk
   rcases List.mem_cons.1 hk with rfl|hk
   ·exact ⟨hr,ap.symm,ix (h.map vP) 0,qg7 hr,hin⟩
   ·exact i1 k hk
  ·rw [List.map_cons] at hk
   rcases List.mem_cons.1 hk with rfl|hk
   ·exact asd x hx
   ·exact i2 x (List.mem_append.2 (.inl hx)) k hk
  ·rw [List.map_cons,List.pairwise_cons]
   exact ⟨fun k hk=>i2 _ (List.mem_append.2 (.inr (List.mem_singleton.2 rfl))) k hk,i3⟩
theorem qvi{o:List (RD×RD)}{hs:List (List (RD×RD))}(h:pgE o hs=0):Plg (o.map vP) (hs.map (List.map vP))/\RgOk (o.map vP)/\ ∀x∈hs.map (List.map vP),RgOk x:=by
 obtain ⟨z1,z2,z3,z4⟩:=qgR h
 have ho:RgOk (o.map vP):=qa3.1 (qbk z1).2.1
 obtain ⟨i1,_,i3⟩:=qqm ho hs [] z4 (by simp)
 exact ⟨⟨ho.simp,ho.area,fun h hh=>(i1 h hh).1.simp,fun h hh=>(i1 h hh).1.area,fun h hh=>(i1 h hh).2,i3⟩,ho,fun x hx=>(i1 x hx).1⟩
def whL:List (List P2)->P2->Int
 | [],_=>1
 |h::hs,q=>if 0-inV h q<=0 then 0-inV h q else whL hs q
def whV(o:List P2)(hs:List (List P2))(q:P2):Int:=if inV o q<=0 then inV o q else whL hs q
def arS(o:List P2)(hs:List (List P2)):Rat:=hs.foldl (fun a h=>a-tot crQ h/2) (tot crQ o/2)
theorem qrH(o:List P2)(hs:List (List P2)):Fun Tryz.prog 174 [.a [.l (pL o),.l (hQ hs)]] [.f 242 [.p 0 [.l (pL o),.l (hQ hs)]]] :=by
 refine qac (fun t=>false) mixed tOk Tryz.func174 rfl rfl ?_
 conv=>whnf
 refine ⟨?_,trivial⟩
 conv=>whnf
 rfl
theorem qnM{o:List P2}{hs:List (List P2)}{i:Nat}(h:i<hs.length):arS o (hs.take (i+1))=arS o (hs.take i)-tot crQ hs[i] /2:=by
 unfold arS;rw [List.take_succ_eq_append_getElem h,List.foldl_append];rfl
theorem qeT{l:List P2}{n:Nat}(hl: ∀p∈l,BP n p)(hlen:l.length<=100):Bd (100*(4*n+2)+1) (tot crQ l/2):=by
 have:=qdH hl l.length (Nat.le_refl _)
 rw [qge] at this
 refine (this.div (qdZ 2 (n:=1) (by decide))).mono ?_
 have:l.length*(4*n+2)<=100*(4*n+2):=Nat.mul_le_mul_right _ (by omega)
 omega
theorem qvf{o:List P2}{hs:List (List P2)}{n:Nat}(ho: ∀p∈o,BP n p)(hlo:o.length<=100)(hh: ∀h∈hs,(∀p∈h,BP n p)/\h.length<=100): ∀i,i<=hs.length->Bd ((i+1)*(100*(4*n+2)+2)) (arS o (hs.take i))
 |0,_=>by
  show Bd _ (tot crQ o/2)
  exact (qeT ho hlo).mono (by omega)
 |i+1,h=>by
  rw [qnM h]
  have hm:=hh _ (List.getElem_mem h)
  exact ((qvf ho hlo hh i (by omega)).sub (qeT hm.1 hm.2)).mono (by rw [Nat.add_mul (i+1) 1];omega)
theorem qC0{o:List P2}{hs:List (List P2)}{n:Nat}(hck:Fun Tryz.prog 73 [.a [.l (pL o),.l (hQ hs)]] [i64 0])(ho: ∀p∈o,BP n p)(hlo:o.length<=100)(hh: ∀h∈hs,(∀p∈h,BP n p)/\h.length<=100)(hn:n<10000)(hlh:hs.length<=8):
  Fun Tryz.prog 18 [.a [.l (pL o),.l (hQ hs)]] [qas (arS o hs),i64 0] :=by
 have hll:(hQ hs).length=hs.length:=by simp
 have hb:=qvf ho hlo hh
 have hbb: ∀i,i<=hs.length->(i+1)*(100*(4*n+2)+2)<=9*(100*(4*n+2)+2):=fun i hi=>Nat.mul_le_mul_right _ (by omega)
 refine qac (fun t=>t==4||t==2) mixed tOk Tryz.func18 rfl rfl ?_
 conv=>whnf
 refine qaa rfl rfl hck ?_
 conv=>whnf
 refine qaZ (by decide) ?_
 conv=>whnf
 refine qaa rfl rfl (qnU o ho (by omega) (by omega)) ?_
 conv=>whnf
 refine qah (fun t=>t==4||t==2) (fun i:Nat=>⟨fr 27 [(1,.d (.p 0 [.l (pL o),.l (hQ hs)])),(2,.ptr 0 0 0),(4,.ptr 1 0 0),(15,.d (.l (hQ hs))),(16,.d (i64 (hQ hs).length)),(17,.d (i64 i))],
  [.box 23 [.d (.v (.bool false)),.d (.v (.string emp)),.d (.v (.string emp))],.box 23 ((qas (arS o (hs.take i))).cells.map .d)]⟩) (fun i=>i<=hs.length) (fun i=>hs.length-i) 0 mixed tOk (by omega) ?_ ?_
 ·refine qag ?_ ?_<;>repeat' (first|exact trivial|exact rfl|apply And.intro)
 ·intro i hi
  have hbi:=hb i hi
  have hbbi:=hbb i hi
  conv=>whnf
  refine qaf (fun hlt=> ?_) (fun hge=> ?_)
  ·have hlt':i<hs.length:=by omega
   have hm:=hh _ (List.getElem_mem hlt')
   have est:=qnM (o:=o) hlt'
   have hw:=qeT hm.1 hm.2
   conv=>whnf
   refine qae (.l (pL hs[i])) (qgD hlt') (by omega) (qeL _) ?_
   conv=>whnf
   refine qab (qnU _ hm.1 (by omega) (by omega)) ?_
   conv=>whnf
   refine qab (qsw (.mk hbi (by omega)) (.mk hw (by omega))) ?_
   conv=>whnf
   refine qad (by kernel_rfl) ?_
   conv=>whnf
   refine qak (by omega) ?_
   conv=>whnf
   refine ⟨i+1,by omega,by omega, ?_⟩
   rw [est,Int.natCast_succ]
   refine qag ?_ ?_<;>repeat' (first|exact trivial|exact rfl|apply And.intro)
  ·have:i=hs.length:=by omega
   subst this
   rw [List.take_length] at hbi ⊢
   conv=>whnf
   refine ⟨?_, ?_,trivial⟩
   ·conv=>whnf
    exact ⟨rfl,rfl,rfl,trivial⟩
   ·conv=>whnf
theorem qlK(l:List P2)(p:P2):inV l p=0\/inV l p=1\/inV l p= -1:=by
 unfold inV
 split
 ·exact .inl rfl
 ·split
  ·exact .inl rfl
  ·split
   ·exact .inr (.inl rfl)
   ·exact .inr (.inr rfl)
noncomputable def qFA(o:List P2)(hs:List (List P2))(q:P2)(i:Nat):St:=
 ⟨fr 25 [(0,.own 1 0),(1,.d (.p 0 [.l (pL o),.l (hQ hs)])),(11,.d (.l (hQ hs))),(12,.d (i64 (hQ hs).length)),(13,.d (i64 i))],
  [.box 3 [.d (i64 0)],
  .loop .ready none #[11,12] (rfO Tryz.f121.body).1 (rfO Tryz.f121.body).2 (fr 26 [(3,.d (.p 0 (pD q).cells)),(4,.ptr 0 0 0)])]⟩
theorem qxh{o:List P2}{hs:List (List P2)}{q:P2}{n:Nat}(ho: ∀p∈o,BP n p)(hlo:o.length<=100)(hh: ∀h∈hs,(∀p∈h,BP n p)/\h.length<=100)(hq:BP n q)(hn:n<10000)(hlh:hs.length<=8):
  Fun Tryz.prog 121 [.a [.l (pL o),.l (hQ hs)],pD q] [i64 (whV o hs q)] :=by
 have hll:(hQ hs).length=hs.length:=by simp
 have r0:=qlK o q
 refine qac (fun t=>t==4||t==5||t==6||t==7||t==8) mixed tOk Tryz.func121 rfl rfl ?_
 conv=>whnf
 refine qaa rfl rfl (qrH o hs) ?_
 conv=>whnf
 refine qbX (g:=242) (cap:= [.d (.p 0 [.l (pL o),.l (hQ hs)])]) (fun t=>t==4||t==5||t==6||t==7||t==8) mixed tOk rfl rfl rfl rfl rfl ?_
 conv=>whnf
 refine qbG (fun t=>t==4||t==5||t==6||t==7||t==8) mixed tOk rfl rfl rfl ?_
 conv=>whnf
 refine qaa rfl rfl (qic o q ho hq (by omega) (by omega)) ?_
 conv=>whnf
 refine qaU (by decide) ?_
 conv=>whnf
 refine qaf (fun c1=> ?_) (fun c1=> ?_)
 ·rw [show whV o hs q=inV o q by unfold whV;rw [if_pos c1]]
  conv=>whnf
  refine ⟨?_,trivial⟩
  conv=>whnf
 rw [show whV o hs q=whL hs q by unfold whV;rw [if_neg c1]]
 conv=>whnf
 refine qbV (fun t=>t==4||t==5||t==6||t==7||t==8) (fun i:Nat=>qFA o hs q i) (fun i=>i<=hs.length/\whL hs q=whL (hs.drop i) q) (fun i=>hs.length-i) 0 mixed tOk ⟨by omega,rfl⟩ ?_ ?_
 ·refine qai 2 rfl ?_
  refine qbC ?_ ?_<;>repeat' (first|exact trivial|exact rfl|apply And.intro)
 ·rintro i ⟨hi,heq⟩
  rw [heq]
  conv=>whnf
  refine qaf (fun hlt=> ?_) (fun hge=> ?_)
  ·have hlt':i<hs.length:=by omega
   have hm:=hh _ (List.getElem_mem hlt')
   have r1:=qlK hs[i] q
   rw [List.drop_eq_getElem_cons hlt',whL]
   conv=>whnf
   refine qae (.l (pL hs[i])) (qgD hlt') (by omega) (qeL _) ?_
   conv=>whnf
   refine qak (by omega) ?_
   conv=>whnf
   refine qbG (fun t=>t==4||t==5||t==6||t==7||t==8) mixed tOk rfl rfl rfl ?_
   conv=>whnf
   refine qaa rfl rfl (qic hs[i] q hm.1 hq (by omega) (by omega)) ?_
   conv=>whnf
   refine qaI (by omega) ?_
   conv=>whnf
   refine qak (by omega) ?_
   conv=>whnf
   refine qaf (fun c2=> ?_) (fun c2=> ?_)
   ·rw [if_pos c2]
    conv=>whnf
    refine ⟨?_,trivial⟩
    conv=>whnf
   ·rw [if_neg c2]
    conv=>whnf
    refine qak (by omega) ?_
    conv=>whnf
    refine ⟨i+1,⟨by omega,rfl⟩,by omega, ?_⟩
    unfold qFA
    rw [Int.natCast_succ]
    refine qai 2 rfl ?_
    refine qbC ?_ ?_<;>repeat' (first|exact trivial|exact rfl|apply And.intro)
  ·have:i=hs.length:=by omega
   subst this
   rw [List.drop_length,whL]
   conv=>whnf
   refine ⟨?_,trivial⟩
   conv=>whnf
theorem qqM{o:List P2}{hs:List (List P2)}{q:P2}{n:Nat}(hck:Fun Tryz.prog 73 [.a [.l (pL o),.l (hQ hs)]] [i64 0])(ho: ∀p∈o,BP n p)(hlo:o.length<=100)(hh: ∀h∈hs,(∀p∈h,BP n p)/\h.length<=100)(hq:BP n q)(hn:n<10000)(hlh:hs.length<=8):
  Fun Tryz.prog 56 [.a [.l (pL o),.l (hQ hs)],pD q] [i64 (whV o hs q),i64 0] :=by
 refine qac (fun t=>false) mixed tOk Tryz.func56 rfl rfl ?_
 conv=>whnf
 refine qaa rfl rfl hck ?_
 conv=>whnf
 refine qaZ (by decide) ?_
 conv=>whnf
 refine qaa rfl rfl (qjw (.mk hq.1 (by omega)) (.mk hq.2 (by omega))) ?_
 conv=>whnf
 refine qaZ (by decide) ?_
 conv=>whnf
 refine qaa rfl rfl (qxh ho hlo hh hq hn hlh) ?_
 conv=>whnf
 refine ⟨?_, ?_,trivial⟩
 ·conv=>whnf
 ·conv=>whnf
def qtc(l:List P2)(p:P2)(i:Nat):Bool:=beB (ix l i) (ix l (i+1)) p
theorem qE3{l:List P2}{p:P2}{n:Nat}(hl: ∀p∈l,BP n p)(hp:BP n p)(hn:n<1000000)(hlen:l.length<=1000):Fun Tryz.prog 307 [.l (pL l),pD p] [.v (.bool ((List.range l.length).any (qtc l p)))] :=by
 have hll:(pL l).length=l.length:=by simp
 refine qac (fun t=>false) mixed tOk Tryz.func307 rfl rfl ?_
 conv=>whnf
 refine qah (fun t=>false) (fun i:Nat=>⟨fr 21 [(0,.d (.l (pL l))),(3,.d (.p 0 (pD p).cells)),(5,.d (i64 i))], []⟩) (fun i=>i<=l.length/\ ∀j,j<i->qtc l p j=false) (fun i=>l.length-i) 0 mixed tOk ⟨by omega,fun j hj=>by omega⟩ ?_ ?_
 ·refine qag ?_ ?_<;>repeat' (first|exact trivial|exact rfl|apply And.intro)
 ·rintro i ⟨hi,hno⟩
  conv=>whnf
  refine qaf (fun hlt=> ?_) (fun hge=> ?_)
  ·have hlt':i<l.length:=by omega
   have b1:=hl _ (qbf (l:=l) (k:=i) (by omega))
   have b2:=hl _ (qbf (l:=l) (k:=i+1) (by omega))
   conv=>whnf
   refine qae (pD (ix l i)) (qdt hlt') (by omega) (qaA l) ?_
   conv=>whnf
   refine qab (qfJ hlt' hlen) ?_
   conv=>whnf
   refine qab (qdx b1 b2 hp (by omega)) ?_
   conv=>whnf
   refine qad (by kernel_rfl) ?_
   conv=>whnf
   cases hb:beB (ix l i) (ix l (i+1)) p with
   |true=>
    rw [show (List.range l.length).any (qtc l p)=true from List.any_eq_true.2 ⟨i,by simpa using hlt',hb⟩]
    conv=>whnf
    refine ⟨?_,trivial⟩
    conv=>whnf
   |false=>
    conv=>whnf
    refine qak (by omega) ?_
    conv=>whnf
    refine ⟨i+1,⟨by omega,fun j hj=> ?_⟩,by omega, ?_⟩
    ·by_cases e:j=i
     ·subst e;exact hb
     ·exact hno j (by omega)
    ·rw [Int.natCast_succ]
     refine qag ?_ ?_<;>repeat' (first|exact trivial|exact rfl|apply And.intro)
  ·have hiE:i=l.length:=by omega
   rw [show (List.range l.length).any (qtc l p)=false by
    rw [List.any_eq_false];intro j hj;rw [hno j (by have:=List.mem_range.1 hj;omega)];decide]
   conv=>whnf
   refine ⟨?_,trivial⟩
   conv=>whnf
theorem qpa(a b p:P2):odE p (a,b)=if abB p a=abB p b then false else if abB p b then decide (0<orI a b p) else decide (0<orI b a p):=by
 unfold odE swE
 simp only
 cases ha:abB p a<;>cases hb:abB p b<;>simp [ha,hb]
theorem qzC{l:List P2}{p:P2}{n:Nat}(hl: ∀p∈l,BP n p)(hp:BP n p)(hn:n<1000000)(hlen:l.length<=1000):Fun Tryz.prog 308 [.l (pL l),pD p] [.v (.bool (odB l p))] :=by
 have hll:(pL l).length=l.length:=by simp
 have qp:=hp.q (by omega)
 refine qac (fun t=>t==7||t==8) mixed tOk Tryz.func308 rfl rfl ?_
 conv=>whnf
 refine qah (fun t=>t==7||t==8) (fun i:Nat=>⟨fr 50 [(0,.d (.l (pL l))),(3,.d (.p 0 (pD p).cells)),(5,.d (.v (.bool (((cyc l).take i).foldl (odF p) false)))),(6,.d (i64 i))], []⟩) (fun i=>i<=l.length) (fun i=>l.length-i) 0 mixed tOk (by omega) ?_ ?_
 ·refine qag ?_ ?_<;>repeat' (first|exact trivial|exact rfl|apply And.intro)
 ·intro i hi
  conv=>whnf
  refine qaf (fun hlt=> ?_) (fun hge=> ?_)
  ·have hlt':i<l.length:=by omega
   have hm:=qb0 hlt'
   have b1:=hl l[i] (List.getElem_mem _)
   have b2:=hl (l[(i+1)%l.length]'hm) (List.getElem_mem _)
   have hcy:=qda hlt'
   have hfo:((cyc l).take (i+1)).foldl (odF p) false=odF p (((cyc l).take i).foldl (odF p) false) (l[i],l[(i+1)%l.length]'hm):=by rw [hcy,List.foldl_append];rfl
   have hnx:=qjh hlt' hlen
   have hgt:=qfq hlt'
   generalize ((cyc l).take i).foldl (odF p) false=z at*
   generalize l[i] =a at*
   generalize l[(i+1)%l.length] =b at*
   have q1:=b1.q (by omega)
   have q2:=b2.q (by omega)
   conv=>whnf
   refine qae (pD a) hgt (by omega) (qaA l) ?_
   conv=>whnf
   refine qab hnx ?_
   conv=>whnf
   refine qad (by kernel_rfl) ?_
   conv=>whnf
   refine qab (qnr q1.2 qp.2) ?_
   conv=>whnf
   refine qab (qnr q2.2 qp.2) ?_
   conv=>whnf
   refine qad (by kernel_rfl) ?_
   conv=>whnf
   have ga:bz (decide (qdr a.2 p.2>0))=abB p a:=by rw [qaJ];rfl
   have gb:bz (decide (qdr b.2 p.2>0))=abB p b:=by rw [qaJ];rfl
   rw [ga,gb]
   have hoe:=qpa a b p
   generalize abB p a=za at*
   generalize abB p b=zb at*
   refine qal (fun c1=> ?_) (fun c1=> ?_)
   ·have hz:za=zb:=by rw [qaJ] at c1;simpa using c1
    rw [if_pos hz] at hoe
    have ho:odF p z (a,b)=z:=by unfold odF;rw [hoe];rfl
    rw [ho] at hfo
    conv=>whnf
    refine qak (by omega) ?_
    conv=>whnf
    refine ⟨i+1,by omega,by omega, ?_⟩
    rw [hfo,Int.natCast_succ]
    refine qai 0 rfl ?_
    refine qai 1 rfl ?_
    refine qag ?_ ?_<;>repeat' (first|exact trivial|exact rfl|apply And.intro)
   ·have hz:za≠zb:=by rw [qaJ] at c1;simpa using c1
    rw [if_neg hz] at hoe
    conv=>whnf
    refine qal (fun c2=> ?_) (fun c2=> ?_)
    ·rw [if_pos c2] at hoe
     conv=>whnf
     refine qaa rfl rfl (qb4 b1 b2 hp (by omega)) ?_
     conv=>whnf
     refine qaf (fun c3=> ?_) (fun c3=> ?_)
     ·rw [decide_eq_true (show 0<orI a b p from c3)] at hoe
      have ho:odF p z (a,b)= !z:=by unfold odF;rw [hoe];rfl
      rw [ho] at hfo
      conv=>whnf
      refine qak (by omega) ?_
      conv=>whnf
      refine ⟨i+1,by omega,by omega, ?_⟩
      rw [hfo,Int.natCast_succ]
      refine qai 0 rfl ?_
      refine qai 1 rfl ?_
      refine qag ?_ ?_<;>repeat' (first|exact trivial|exact rfl|apply And.intro)
     ·rw [decide_eq_false (show¬0<orI a b p from c3)] at hoe
      have ho:odF p z (a,b)=z:=by unfold odF;rw [hoe];rfl
      rw [ho] at hfo
      conv=>whnf
      refine qak (by omega) ?_
      conv=>whnf
      refine ⟨i+1,by omega,by omega, ?_⟩
      rw [hfo,Int.natCast_succ]
      refine qai 0 rfl ?_
      refine qai 1 rfl ?_
      refine qag ?_ ?_<;>repeat' (first|exact trivial|exact rfl|apply And.intro)
    ·rw [if_neg (by rw [c2];decide)] at hoe
     conv=>whnf
     refine qaa rfl rfl (qb4 b2 b1 hp (by omega)) ?_
     conv=>whnf
     refine qaf (fun c3=> ?_) (fun c3=> ?_)
     ·rw [decide_eq_true (show 0<orI b a p from c3)] at hoe
      have ho:odF p z (a,b)= !z:=by unfold odF;rw [hoe];rfl
      rw [ho] at hfo
      conv=>whnf
      refine qak (by omega) ?_
      conv=>whnf
      refine ⟨i+1,by omega,by omega, ?_⟩
      rw [hfo,Int.natCast_succ]
      refine qai 0 rfl ?_
      refine qai 1 rfl ?_
      refine qag ?_ ?_<;>repeat' (first|exact trivial|exact rfl|apply And.intro)
     ·rw [decide_eq_false (show¬0<orI b a p from c3)] at hoe
      have ho:odF p z (a,b)=z:=by unfold odF;rw [hoe];rfl
      rw [ho] at hfo
      conv=>whnf
      refine qak (by omega) ?_
      conv=>whnf
      refine ⟨i+1,by omega,by omega, ?_⟩
      rw [hfo,Int.natCast_succ]
      refine qai 0 rfl ?_
      refine qai 1 rfl ?_
      refine qag ?_ ?_<;>repeat' (first|exact trivial|exact rfl|apply And.intro)
  ·have hiE:i=l.length:=by omega
   subst hiE
   conv=>whnf
   refine ⟨?_,trivial⟩
   conv=>whnf
   unfold odB
   rw [show (cyc l).take l.length=cyc l from by rw [<-qbp l];exact List.take_length]
def sdI(l:List P2)(p:P2):Int:=if (List.range l.length).any (qtc l p) then 0 else if odB l p then 1 else-1
theorem qv8{l:List P2}{p:P2}{n:Nat}(hl: ∀p∈l,BP n p)(hp:BP n p)(hn:n<1000000)(hlen:l.length<=1000):Fun Tryz.prog 218 [.l (pL l),pD p] [i64 (sdI l p)] :=by
 have h1:=qE3 hl hp hn hlen
 have h2:=qzC hl hp hn hlen
 unfold sdI
 cases ho:(List.range l.length).any (qtc l p) with
 |true=>
  rw [ho] at h1
  refine qac (fun t=>false) mixed tOk Tryz.func218 rfl rfl ?_
  conv=>whnf
  refine qaa rfl rfl h1 ?_
  conv=>whnf
  refine ⟨?_,trivial⟩
  conv=>whnf
  rfl
 |false=>
  rw [ho] at h1
  cases hd:odB l p with
  |true=>
   rw [hd] at h2
   refine qac (fun t=>false) mixed tOk Tryz.func218 rfl rfl ?_
   conv=>whnf
   refine qaa rfl rfl h1 ?_
   conv=>whnf
   refine qaa rfl rfl h2 ?_
   conv=>whnf
   refine ⟨?_,trivial⟩
   conv=>whnf
   rfl
  |false=>
   rw [hd] at h2
   refine qac (fun t=>false) mixed tOk Tryz.func218 rfl rfl ?_
   conv=>whnf
   refine qaa rfl rfl h1 ?_
   conv=>whnf
   refine qaa rfl rfl h2 ?_
   conv=>whnf
   refine ⟨?_,trivial⟩
   conv=>whnf
   rfl
def rmB(a b c d:P2):Bool:=beB a b c||beB a b d||beB c d a||beB c d b||(decide (orI a b c*orI a b d<0)&&decide (orI c d a*orI c d b<0))
theorem qjG(a b c:P2): -1<=orI a b c/\orI a b c<=1:=by
 unfold orI
 rw [qde]
 unfold qpG
 split
 ·omega
 ·split<;>omega
theorem qql{x y:Int}(hx: -1<=x/\x<=1)(hy: -1<=y/\y<=1): -1<=x*y/\x*y<=1:=by
 have h1:x= -1\/x=0\/x=1:=by omega
 have h2:y= -1\/y=0\/y=1:=by omega
 rcases h1 with rfl|rfl|rfl<;>rcases h2 with rfl|rfl|rfl<;>decide
theorem qtF{a b c d:P2}{n:Nat}(ha:BP n a)(hb:BP n b)(hc:BP n c)(hd:BP n d)(hn:n<1000000):Fun Tryz.prog 270 [pD a,pD b,pD c,pD d] [.v (.bool (rmB a b c d))] :=by
 have k1:=qdx ha hb hc (by omega)
 have k2:=qdx ha hb hd (by omega)
 have k3:=qdx hc hd ha (by omega)
 have k4:=qdx hc hd hb (by omega)
 have r1:=qql (qjG a b c) (qjG a b d)
 have r2:=qql (qjG c d a) (qjG c d b)
 unfold rmB
 generalize beB a b c=z1 at*
 generalize beB a b d=z2 at*
 generalize beB c d a=z3 at*
 generalize beB c d b=z4 at*
 cases z1 with
 |true=>
  refine qac (fun t=>false) mixed tOk Tryz.func270 rfl rfl ?_
  conv=>whnf
  refine qaa rfl rfl k1 ?_
  conv=>whnf
  refine ⟨?_,trivial⟩
  conv=>whnf
  try rfl
 |false=>
 cases z2 with
 |true=>
  refine qac (fun t=>false) mixed tOk Tryz.func270 rfl rfl ?_
  conv=>whnf
  refine qaa rfl rfl k1 ?_
  conv=>whnf
  refine qaa rfl rfl k2 ?_
  conv=>whnf
  refine ⟨?_,trivial⟩
  conv=>whnf
  try rfl
 |false=>
 cases z3 with
 |true=>
  refine qac (fun t=>false) mixed tOk Tryz.func270 rfl rfl ?_
  conv=>whnf
  refine qaa rfl rfl k1 ?_
  conv=>whnf
  refine qaa rfl rfl k2 ?_
  conv=>whnf
  refine qaa rfl rfl k3 ?_
  conv=>whnf
  refine ⟨?_,trivial⟩
  conv=>whnf
  try rfl
 |false=>
 cases z4 with
 |true=>
  refine qac (fun t=>false) mixed tOk Tryz.func270 rfl rfl ?_
  conv=>whnf
  refine qaa rfl rfl k1 ?_
  conv=>whnf
  refine qaa rfl rfl k2 ?_
  conv=>whnf
  refine qaa rfl rfl k3 ?_
  conv=>whnf
  refine qaa rfl rfl k4 ?_
  conv=>whnf
  refine ⟨?_,trivial⟩
  conv=>whnf
  try rfl
 |false=>
  refine qac (fun t=>false) mixed tOk Tryz.func270 rfl rfl ?_
  conv=>whnf
  refine qaa rfl rfl k1 ?_
  conv=>whnf
  refine qaa rfl rfl k2 ?_
  conv=>whnf
  refine qaa rfl rfl k3 ?_
  conv=>whnf
  refine qaa rfl rfl k4 ?_
  conv=>whnf
  refine qab (qb4 ha hb hc (by omega)) ?_
  conv=>whnf
  refine qab (qb4 ha hb hd (by omega)) ?_
  conv=>whnf
  refine qak (by omega) ?_
  conv=>whnf
  refine qaf (fun c1=> ?_) (fun c1=> ?_)
  ·conv=>whnf
   refine qab (qb4 hc hd ha (by omega)) ?_
   conv=>whnf
   refine qab (qb4 hc hd hb (by omega)) ?_
   conv=>whnf
   refine qak (by omega) ?_
   conv=>whnf
   refine qad (by kernel_rfl) ?_
   conv=>whnf
   refine ⟨?_,trivial⟩
   conv=>whnf
   rw [qaJ,decide_eq_true c1]
   rfl
  ·conv=>whnf
   refine qad (by kernel_rfl) ?_
   conv=>whnf
   refine ⟨?_,trivial⟩
   conv=>whnf
   rw [decide_eq_false c1]
   rfl
def stB(l:List P2)(i:Nat):Bool:=decide (orI (ix l i) (ix l (i+1)) (ix l (i+2))=0)
theorem ql6{l:List P2}{n:Nat}(hl: ∀p∈l,BP n p)(hn:n<1000000)(hlen:l.length<=1000):Fun Tryz.prog 198 [.l (pL l)] [.v (.bool ((List.range l.length).any (stB l)))] :=by
 have hll:(pL l).length=l.length:=by simp
 refine qac (fun t=>false) mixed tOk Tryz.func198 rfl rfl ?_
 conv=>whnf
 refine qah (fun t=>false) (fun i:Nat=>⟨fr 27 [(0,.d (.l (pL l))),(3,.d (i64 (pL l).length)),(4,.d (i64 i))], []⟩) (fun i=>i<=l.length/\ ∀j,j<i->stB l j=false) (fun i=>l.length-i) 0 mixed tOk ⟨by omega,fun j hj=>by omega⟩ ?_ ?_
 ·refine qag ?_ ?_<;>repeat' (first|exact trivial|exact rfl|apply And.intro)
 ·rintro i ⟨hi,hno⟩
  conv=>whnf
  refine qaf (fun hlt=> ?_) (fun hge=> ?_)
  ·have hlt':i<l.length:=by omega
   have b0:=hl _ (qbf (l:=l) (k:=i) (by omega))
   have b1:=hl _ (qbf (l:=l) (k:=i+1) (by omega))
   have b2:=hl _ (qbf (l:=l) (k:=i+2) (by omega))
   have hmn:(i+1)%l.length<l.length:=Nat.mod_lt _ (by omega)
   have hnx:=qfJ hmn hlen
   have e2:ix l ((i+1)%l.length+1)=ix l (i+2):=by
    unfold ix
    rw [Nat.mod_add_mod]
   rw [e2] at hnx
   have e3:Int.tmod ((i:Int)+1) ((pL l).length:Int)=(((i+1)%l.length:Nat):Int):=by
    rw [qcc,show ((i:Int)+1)=((i+1:Nat):Int) from rfl,qck]
   conv=>whnf
   refine qae (pD (ix l i)) (qdt hlt') (by omega) (qaA l) ?_
   conv=>whnf
   refine qab (qfJ hlt' hlen) ?_
   conv=>whnf
   refine qak (by omega) ?_
   conv=>whnf
   refine qak (by omega) ?_
   conv=>whnf
   rw [<-e3] at hnx
   refine qab hnx ?_
   conv=>whnf
   refine qab (qb4 b0 b1 b2 (by omega)) ?_
   conv=>whnf
   refine qad (by kernel_rfl) ?_
   conv=>whnf
   refine qa4 (fun c1=> ?_) (fun c1=> ?_)
   ·rw [show (List.range l.length).any (stB l)=true from List.any_eq_true.2 ⟨i,by simpa using hlt',by unfold stB;exact decide_eq_true c1⟩]
    conv=>whnf
    refine ⟨?_,trivial⟩
    conv=>whnf
   ·conv=>whnf
    refine qak (by omega) ?_
    conv=>whnf
    refine ⟨i+1,⟨by omega,fun j hj=> ?_⟩,by omega, ?_⟩
    ·by_cases e:j=i
     ·subst e;unfold stB;exact decide_eq_false c1
     ·exact hno j (by omega)
    ·rw [Int.natCast_succ]
     refine qag ?_ ?_<;>repeat' (first|exact trivial|exact rfl|apply And.intro)
  ·have hiE:i=l.length:=by omega
   rw [show (List.range l.length).any (stB l)=false by
    rw [List.any_eq_false];intro j hj;rw [hno j (by have:=List.mem_range.1 hj;omega)];decide]
   conv=>whnf
   refine ⟨?_,trivial⟩
   conv=>whnf
theorem qtI{l:List (RD×RD)}(hl: ∀p∈l,SzP p)(hlen:l.length<=100000):Fun Tryz.prog 197 [.l (rL l)] [.v (.bool (l.all okR))] :=by
 have hll:(rL l).length=l.length:=by simp
 refine qac (fun t=>false) mixed tOk Tryz.func197 rfl rfl ?_
 conv=>whnf
 refine qah (fun t=>false) (fun i:Nat=>⟨fr 16 [(0,.d (.l (rL l))),(3,.d (i64 i))], []⟩) (fun i=>i<=l.length/\ ∀j (h:j<l.length),j<i->okR l[j] =true) (fun i=>l.length-i) 0 mixed tOk ⟨by omega,fun j _ hj=>by omega⟩ ?_ ?_
 ·refine qag ?_ ?_<;>repeat' (first|exact trivial|exact rfl|apply And.intro)
 ·rintro i ⟨hi,hno⟩
  conv=>whnf
  refine qaf (fun hlt=> ?_) (fun hge=> ?_)
  ·have hlt':i<l.length:=by omega
   have hs:=hl _ (List.getElem_mem hlt')
   conv=>whnf
   refine qae (pR l[i]) (qll hlt') (by omega) (qij l) ?_
   conv=>whnf
   refine qaa rfl rfl (qfC l[i].1 l[i].2 hs.1 hs.2) ?_
   conv=>whnf
   refine qav (fun c1=> ?_) (fun c1=> ?_)
   ·rw [show l.all okR=false by
     rw [List.all_eq_false]
     exact ⟨l[i],List.getElem_mem hlt',by unfold okR;rw [decide_eq_false c1];decide⟩]
    conv=>whnf
    refine ⟨?_,trivial⟩
    conv=>whnf
   ·conv=>whnf
    refine qak (by omega) ?_
    conv=>whnf
    refine ⟨i+1,⟨by omega,fun j h hj=> ?_⟩,by omega, ?_⟩
    ·by_cases e:j=i
     ·subst e;unfold okR;exact decide_eq_true c1
     ·exact hno j h (by omega)
    ·rw [Int.natCast_succ]
     refine qag ?_ ?_<;>repeat' (first|exact trivial|exact rfl|apply And.intro)
  ·have hiE:i=l.length:=by omega
   rw [show l.all okR=true by
    rw [List.all_eq_true];intro p hp;obtain ⟨j,hj,rfl⟩:=List.getElem_of_mem hp;exact hno j hj (by omega)]
   conv=>whnf
   refine ⟨?_,trivial⟩
   conv=>whnf
end Go.Nv
end
