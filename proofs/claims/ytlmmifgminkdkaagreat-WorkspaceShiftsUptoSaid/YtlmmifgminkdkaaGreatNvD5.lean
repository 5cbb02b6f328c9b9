import Derived.Test.YtlmmifgminkdkaaGreatNvD4
import Derived.Test.YtlmmifgminkdkaaGreatNvC5
import Derived.Test.YtlmmifgminkdkaaGreatNvD2
import Derived.Test.YtlmmifgminkdkaaGreatNvP2
import Derived.Test.YtlmmifgminkdkaaGreatNvP3
set_option linter.all false
set_option maxRecDepth 100000
section
namespace Go.Nv
open Go.Proofs Nw
theorem qfC(r s:RD)(hr:Sz r)(hs:Sz s):Fun Tryz.prog 96 [ptR r s] [i64 (okP r s)] :=by
 refine qac (fun t=>false) mixed tOk Tryz.func96 rfl rfl ?_
 conv=>whnf
 refine qaa rfl rfl (qnj r hr) ?_
 conv=>whnf
 refine qav (fun h=> ?_) (fun h=> ?_)
 ·conv=>whnf
  refine ⟨?_,trivial⟩
  conv=>whnf
  unfold okP;rw [if_neg (fun h'=>h (qc8.2 h'.1))]
 ·conv=>whnf
  refine qaa rfl rfl (qnj s hs) ?_
  conv=>whnf
  refine qav (fun h2=> ?_) (fun h2=> ?_)
  ·conv=>whnf
   refine ⟨?_,trivial⟩
   conv=>whnf
   unfold okP;rw [if_neg (fun h'=>h2 (qc8.2 h'.2))]
  ·conv=>whnf
   refine ⟨?_,trivial⟩
   conv=>whnf
   exact (qcn.2 ⟨qc8.1 h,qc8.1 h2⟩).symm
theorem qsC(a b c d:RD)(ha:Sz a)(hb:Sz b)(hc:Sz c)(hd:Sz d):Fun Tryz.prog 105 [quR a b c d] [.v (.bool (vbB a b c d))] :=by
 have fin: ∀z:Bool,(z=true↔okP a b=0/\okP c d=0/\a.val<c.val/\b.val<d.val)->z=vbB a b c d:=fun z hz=>by
  unfold vbB
  rw [Bool.eq_iff_iff,hz,decide_eq_true_eq]
 refine qac (fun t=>false) mixed tOk Tryz.func105 rfl rfl ?_
 conv=>whnf
 refine qaa rfl rfl (qfC a b ha hb) ?_
 conv=>whnf
 refine qa4 (fun h=> ?_) (fun h=> ?_)
 ·conv=>whnf
  refine qaa rfl rfl (qfC c d hc hd) ?_
  conv=>whnf
  refine qa4 (fun h2=> ?_) (fun h2=> ?_)
  ·conv=>whnf
   refine qaa rfl rfl (qnG a c ha hc) ?_
   conv=>whnf
   refine qaf (fun h3=> ?_) (fun h3=> ?_)
   ·conv=>whnf
    refine qaa rfl rfl (qnG b d hb hd) ?_
    conv=>whnf
    refine ⟨?_,trivial⟩
    conv=>whnf
    rw [qaJ]
    refine fin _ ?_
    rw [qdN] at h3
    rw [decide_eq_true_eq,qdN]
    exact ⟨fun h4=>⟨h,h2,h3,h4⟩,fun h4=>h4.2.2.2⟩
   ·conv=>whnf
    refine ⟨?_,trivial⟩
    conv=>whnf
    refine fin _ ?_
    rw [qdN] at h3
    simp [h3]
  ·conv=>whnf
   refine ⟨?_,trivial⟩
   conv=>whnf
   refine fin _ ?_
   simp [h2]
 ·conv=>whnf
  refine ⟨?_,trivial⟩
  conv=>whnf
  refine fin _ ?_
  simp [h]
theorem qhW{x y u v:Rat}(hx:Q x)(hy:Q y)(hu:Q u)(hv:Q v):Fun Tryz.prog 99 [ptD x y,ptD u v] [ptD (x-u) (y-v)] :=by
 refine qac (fun t=>false) mixed tOk Tryz.func99 rfl rfl ?_
 conv=>whnf
 refine qab (qpD hx hu) ?_
 conv=>whnf
 refine qab (qpD hy hv) ?_
 conv=>whnf
 refine qad (by kernel_rfl) ?_
 conv=>whnf
 exact ⟨⟨rfl,rfl,rfl,rfl,rfl,rfl,trivial⟩,trivial⟩
theorem quX{x y u v:Rat}(hx:Q x)(hy:Q y)(hu:Q u)(hv:Q v):Fun Tryz.prog 278 [ptD x y,ptD u v] [ptD (x+u) (y+v)] :=by
 refine qac (fun t=>false) mixed tOk Tryz.func278 rfl rfl ?_
 conv=>whnf
 refine qab (qnD hx hu) ?_
 conv=>whnf
 refine qab (qnD hy hv) ?_
 conv=>whnf
 refine qad (by kernel_rfl) ?_
 conv=>whnf
 exact ⟨⟨rfl,rfl,rfl,rfl,rfl,rfl,trivial⟩,trivial⟩
theorem qsg{x y k:Rat}(hx:Q x)(hy:Q y)(hk:Q k):Fun Tryz.prog 279 [ptD x y,qas k] [ptD (x*k) (y*k)] :=by
 refine qac (fun t=>false) mixed tOk Tryz.func279 rfl rfl ?_
 conv=>whnf
 refine qab (qhB hx hk) ?_
 conv=>whnf
 refine qab (qhB hy hk) ?_
 conv=>whnf
 refine qad (by kernel_rfl) ?_
 conv=>whnf
 exact ⟨⟨rfl,rfl,rfl,rfl,rfl,rfl,trivial⟩,trivial⟩
theorem qu2{x y u v:Rat}(hx:Q x)(hy:Q y)(hu:Q u)(hv:Q v):Fun Tryz.prog 144 [ptD x y,ptD u v] [i64 (if qdr x u=0 then qdr y v else qdr x u)] :=by
 refine qac (fun t=>false) mixed tOk Tryz.func144 rfl rfl ?_
 conv=>whnf
 refine qaa rfl rfl (qnr hx hu) ?_
 conv=>whnf
 refine qav (fun h=> ?_) (fun h=> ?_)
 ·conv=>whnf
  refine ⟨?_,trivial⟩
  conv=>whnf
  rw [if_neg h]
 ·conv=>whnf
  refine qaa rfl rfl (qnr hy hv) ?_
  conv=>whnf
  refine ⟨?_,trivial⟩
  conv=>whnf
  rw [if_pos h]
theorem qkK{x y u v:Rat}(hx:Q x)(hy:Q y)(hu:Q u)(hv:Q v):Fun Tryz.prog 273 [quD x y u v] [i64 (sgE x y u v)] :=by
 have e:(if qdr x u=0 then qdr y v else qdr x u)=0↔x=u/\y=v:=by
  split
  ·rename_i h;rw [qbB] at h;rw [qbB];exact ⟨fun h2=>⟨h,h2⟩,fun h2=>h2.2⟩
  ·rename_i h;exact ⟨fun h2=>absurd h2 h,fun h2=>absurd (qbB.2 h2.1) h⟩
 refine qac (fun t=>false) mixed tOk Tryz.func273 rfl rfl ?_
 conv=>whnf
 refine qaa rfl rfl (qu2 hx hy hu hv) ?_
 conv=>whnf
 refine qa4 (fun h=> ?_) (fun h=> ?_)
 ·conv=>whnf
  refine ⟨?_,trivial⟩
  conv=>whnf
  unfold sgE;rw [if_pos (e.1 h)]
 ·conv=>whnf
  refine ⟨?_,trivial⟩
  conv=>whnf
  unfold sgE;rw [if_neg (fun hh=>h (e.2 hh))]
theorem qo8{x y:Rat}(hx:Q x)(hy:Q y):Fun Tryz.prog 96 [ptD x y] [i64 0] :=by
 have h:=qfC (canon x) (canon y) hx.sz hy.sz
 rw [qcn.2 ⟨by rw [qar],by rw [qar]⟩] at h
 have e:ptD x y=ptR (canon x) (canon y):=by unfold ptD ptR qd4 qeo qeg;rfl
 rw [e];exact h
theorem BP.mono{n m:Nat}{p:P2}(h:BP n p)(hm:n<=m):BP m p:=⟨h.1.mono hm,h.2.mono hm⟩
theorem qnP{o:List P2}: ∀{hs:List (List (RD×RD))} {pre:List (List P2)},hoL o pre hs=0-> ∀h∈hs,rgR h=0
 | [],pre,_,h,hh=>by simp at hh
 |x::hs,pre,e,h,hh=>by
  rw [hoL] at e
  split at e
  ·rename_i h1;exact absurd e h1
  ·rename_i h1
   split at e
   ·rename_i h2;exact absurd e h2
   ·rcases List.mem_cons.1 hh with rfl|hh
    ·exact Classical.not_not.1 h1
    ·exact qnP e h hh
theorem qgR{o:List (RD×RD)}{hs:List (List (RD×RD))}(h:pgE o hs=0):rgR o=0/\(∀h∈hs,rgR h=0)/\hs.length<=8/\hoL (o.map vP) [] hs=0:=by
 unfold pgE at h
 split at h
 ·rename_i h1;exact absurd h h1
 ·rename_i h1
  split at h
  ·exact absurd h (by decide)
  ·rename_i h2
   exact ⟨Classical.not_not.1 h1,qnP h,by omega,h⟩
structure qFB (o:List (RD×RD)) (hs:List (List (RD×RD))) (n:Nat):Prop where
 lo:o.length<=100000
 lh:hs.length<=100000
 ob: ∀p∈o,BP n (vP p)/\SzP p
 hb: ∀h∈hs,∀p∈h,BP n (vP p)/\SzP p
 hl: ∀h∈hs,h.length<=100000
theorem qmS{o:List (RD×RD)}{hs:List (List (RD×RD))}{n:Nat}(h:qFB o hs n)(hn:n<1000000):Fun Tryz.prog 73 [pgR o hs] [i64 (pgE o hs)] :=qnS o hs hn h.lo h.lh h.ob h.hb h.hl
theorem qfI{a b c:P2}:orI a b c=0↔orQ a b c=0:=by unfold orI;exact qcp
theorem qml{p q:Rat}:qdr p q<=0↔p<=q:=by
 rw [qd6];unfold qsH
 by_cases h1:p<q
 ·rw [if_pos h1];constructor<;>intro h
  ·grind
  ·decide
 ·rw [if_neg h1]
  by_cases h2:q<p
  ·rw [if_pos h2];constructor<;>intro h
   ·exact absurd h (by decide)
   ·grind
  ·rw [if_neg h2];constructor<;>intro h
   ·grind
   ·decide
def leP(p q:P2):Prop:=p.1<q.1\/(p.1=q.1/\p.2<=q.2)
theorem qby{p q:P2}:cmP p q<=0↔leP p q:=by
 unfold cmP leP
 by_cases h:qdr p.1 q.1=0
 ·rw [if_pos h,qml]
  have:=qbB.1 h
  constructor
  ·intro h1;exact .inr ⟨this,h1⟩
  ·rintro (h1|⟨_,h1⟩)
   ·grind
   ·exact h1
 ·rw [if_neg h]
  have hne:p.1≠q.1:=fun e=>h (qbB.2 e)
  constructor
  ·intro h1;left;exact qdN.1 (by omega)
  ·rintro (h1|⟨h1,_⟩)
   ·have:=qdN.2 h1;omega
   ·exact absurd h1 hne
theorem qeB(p:P2):leP p p:= .inr ⟨rfl,Rat.le_refl⟩
theorem qhe{p q r:P2}(h:leP p q)(k:leP q r):leP p r:=by
 unfold leP at*;grind
theorem qk3(p q:P2):leP p q\/leP q p:=by
 unfold leP
 by_cases h1:p.1<q.1
 ·exact .inl (.inl h1)
 ·by_cases h2:q.1<p.1
  ·exact .inr (.inl h2)
  ·by_cases h3:p.2<=q.2
   ·exact .inl (.inr ⟨by grind,h3⟩)
   ·exact .inr (.inr ⟨by grind,by grind⟩)
theorem qei{p q:P2}(h: ¬leP p q):leP q p:=(qk3 p q).resolve_left h
theorem qjb{p q:P2}(h:leP p q){t:Rat}(t0:0<=t)(t1:t<=1):leP p (lin p q t)/\leP (lin p q t) q:=by
 unfold leP at*
 simp only [lin]
 rcases h with h|⟨h1,h2⟩
 ·by_cases z:t=0
  ·subst z
   exact ⟨.inr ⟨by grind,by grind⟩,.inl (by grind)⟩
  ·by_cases o:t=1
   ·subst o
    exact ⟨.inl (by grind),.inr ⟨by grind,by grind⟩⟩
   ·have m1:=Rat.mul_pos (show 0<t by grind) (show 0<q.1-p.1 by grind)
    have m2:=Rat.mul_pos (show 0<1-t by grind) (show 0<q.1-p.1 by grind)
    exact ⟨.inl (by grind),.inl (by grind)⟩
 ·have m1:=Rat.mul_nonneg t0 (show 0<=q.2-p.2 by grind)
  have m2:=Rat.mul_nonneg (show 0<=1-t by grind) (show 0<=q.2-p.2 by grind)
  exact ⟨.inr ⟨by grind,by grind⟩,.inr ⟨by grind,by grind⟩⟩
theorem qnz(a b:P2){t:Rat}(t0:0<=t)(t1:t<=1):leP (qaW a b).1 (lin a b t)/\leP (lin a b t) (qaW a b).2:=by
 unfold qaW
 by_cases h:0<cmP a b
 ·rw [if_pos h]
  have hn: ¬leP a b:=fun h1=>by have:=qby.2 h1;omega
  have:=qjb (qei hn) (t:=1-t) (by grind) (by grind)
  rw [qcl] at this
  have e:(1:Rat)-(1-t)=t:=by grind
  rw [e] at this;exact this
 ·rw [if_neg h]
  have h':cmP a b<=0:=by omega
  exact qjb (qby.1 h') t0 t1
theorem qvp{p q r:P2}(h:leP p r)(k:leP q r):leP (qfd p q) r:=by unfold qfd;split<;>assumption
theorem qxD{p q r:P2}(h:leP r p)(k:leP r q):leP r (qgm p q):=by unfold qgm;split<;>assumption
theorem qeS{t:Rat}:unB t=true↔0<=t/\t<=1:=by
 unfold unB
 rw [Bool.and_eq_true,decide_eq_true_eq,decide_eq_true_eq,qml]
 have:0<=qfY t↔0<=t:=by
  rw [qde];unfold qpG
  by_cases h1:t<0
  ·rw [if_pos h1];constructor<;>intro h
   ·exact absurd h (by decide)
   ·grind
  ·rw [if_neg h1]
   constructor<;>intro h
   ·grind
   ·split<;>decide
 rw [this]
theorem qtx{a b c d:P2}(h:mtQ a b c d=none):Disj a b c d:=by
 intro s t s0 s1 t0 t1 heq
 have e1:=congrArg Prod.fst heq
 have e2:=congrArg Prod.snd heq
 simp only [lin] at e1 e2
 unfold mtQ at h
 by_cases hD:crQ (su b a) (su d c)=0
 ·rw [if_pos hD] at h
  by_cases hx:crQ (su b a) (su c a)=0
  ·rw [if_pos hx] at h
   have k1:=qnz a b s0 s1
   have k2:=qnz c d t0 t1
   rw [<-heq] at k2
   have:leP (qfd (qaW a b).1 (qaW c d).1) (qgm (qaW a b).2 (qaW c d).2):=qhe (qvp k1.1 k2.1) (qxD k1.2 k2.2)
   rw [if_neg (by have:=qby.2 this;omega)] at h
   exact absurd h (by simp)
  ·apply hx
   simp only [crQ,su] at hD ⊢
   have f1:c.1-a.1=(b.1-a.1)*s-(d.1-c.1)*t:=by grind
   have f2:c.2-a.2=(b.2-a.2)*s-(d.2-c.2)*t:=by grind
   rw [f1,f2]
   have:(b.1-a.1)*((b.2-a.2)*s-(d.2-c.2)*t)-(b.2-a.2)*((b.1-a.1)*s-(d.1-c.1)*t)= -t*((b.1-a.1)*(d.2-c.2)-(b.2-a.2)*(d.1-c.1)):=by grind
   rw [this,hD];grind
 ·rw [if_neg hD] at h
  have es:crQ (su c a) (su d c)/crQ (su b a) (su d c)=s:=by
   have:crQ (su c a) (su d c)=s*crQ (su b a) (su d c):=by
    simp only [crQ,su]
    have f1:c.1-a.1=(b.1-a.1)*s-(d.1-c.1)*t:=by grind
    have f2:c.2-a.2=(b.2-a.2)*s-(d.2-c.2)*t:=by grind
    rw [f1,f2];grind
   rw [this];grind
  have et:crQ (su c a) (su b a)/crQ (su b a) (su d c)=t:=by
   have:crQ (su c a) (su b a)=t*crQ (su b a) (su d c):=by
    simp only [crQ,su]
    have f1:c.1-a.1=(b.1-a.1)*s-(d.1-c.1)*t:=by grind
    have f2:c.2-a.2=(b.2-a.2)*s-(d.2-c.2)*t:=by grind
    rw [f1,f2];grind
   rw [this];grind
  rw [es,et,if_pos (by rw [qeS.2 ⟨s0,s1⟩,qeS.2 ⟨t0,t1⟩];rfl)] at h
  exact absurd h (by simp)
theorem qhb{a b c d:P2}(h:mtB a b c d=false)(hab:a≠b)(hcd:c≠d):Disj a b c d:=by
 refine qtx ?_
 unfold mtB at h
 rw [decide_eq_false hab,decide_eq_false hcd] at h
 simpa using h
theorem Disj.swap{a b u v:P2}(h:Disj a b u v):Disj u v a b:=Nw.Disj.symm h
theorem qup{l l':List P2}(h:Rot l l')(hl:0<l.length): ∃j,∀k,ix l' k=ix l (j+k):=by
 obtain ⟨x,y,rfl,rfl⟩:=h
 refine ⟨x.length,fun k=> ?_⟩
 unfold ix
 have hlen:(y++x).length=(x++y).length:=by simp;omega
 rw [hlen]
 have hn:(x++y).length=x.length+y.length:=List.length_append
 obtain ⟨n,hN⟩: ∃n,n=(x++y).length:=⟨_,rfl⟩
 rw [<-hN] at hl ⊢
 have hk:=Nat.mod_lt k hl
 have e:(x.length+k)%n=if k%n<y.length then x.length+k%n else k%n-y.length:=by
  rw [<-Nat.add_mod_mod]
  split
  ·exact Nat.mod_eq_of_lt (by omega)
  ·rw [Nat.mod_eq_sub_mod (by omega),Nat.mod_eq_of_lt (by omega)];omega
 rw [e]
 rw [List.getD_eq_getElem?_getD,List.getD_eq_getElem?_getD]
 by_cases hc:k%n<y.length
 ·rw [if_pos hc,List.getElem?_append_left hc,List.getElem?_append_right (by omega)]
  congr 2;omega
 ·rw [if_neg hc,List.getElem?_append_right (by omega),List.getElem?_append_left (by omega)]
theorem qk5{l:List P2}(h: ¬0<=qdA (flB l) (List.range l.length)){i:Nat}(hi:i<l.length):flB l i=false:=by
 unfold qdA at h
 cases hf:List.findIdx? (flB l) (List.range l.length) with
 |some k=>rw [hf] at h;exact absurd (Int.natCast_nonneg k) h
 |none=>
  rw [List.findIdx?_eq_none_iff] at hf
  exact hf i (by simpa using hi)
structure RgS (l:List P2):Prop where
 len:3<=l.length/\l.length<=64
 fl: ∀i,i<l.length->flB l i=false
 cr:crB l=false
structure RgOk (l:List P2):Prop where
 len:3<=l.length/\l.length<=64
 fl: ∀i,i<l.length->flB l i=false
 cr:crB l=false
 pos:0<tot crQ l
 fst:kf l l.length=0
theorem ql4{l:List P2}:(0<qfY (tot crQ l/2))↔0<tot crQ l:=by
 rw [qde];unfold qpG
 constructor
 ·intro h
  by_cases h1:tot crQ l/2<0
  ·rw [if_pos h1] at h;exact absurd h (by decide)
  ·rw [if_neg h1] at h
   by_cases h2:0<tot crQ l/2
   ·grind
   ·rw [if_neg h2] at h;exact absurd h (by decide)
 ·intro h
  rw [if_neg (by grind),if_pos (by grind)];decide
theorem qa3{l:List P2}:rgE l=0↔RgOk l:=by
 unfold rgE
 constructor
 ·intro h
  split at h
  ·exact absurd h (by decide)
  ·rename_i h1
   split at h
   ·exact absurd h (by decide)
   ·rename_i h2
    split at h
    ·exact absurd h (by decide)
    ·rename_i h3
     split at h
     ·exact absurd h (by decide)
     ·rename_i h4
      refine ⟨by omega,fun i hi=>qk5 h2 hi,by simpa using h3,ql4.1 (by omega),by omega⟩
 ·intro h
  have h2: ¬0<=qdA (flB l) (List.range l.length):=by
   unfold qdA
   rw [List.findIdx?_eq_none_iff.2 (fun i hi=>h.fl i (by simpa using hi))]
   decide
  have:=ql4.2 h.pos
  have:=h.fst
  have:=h.len
  rw [if_neg (by omega),if_neg h2,if_neg (by rw [h.cr];decide),if_neg (by omega)]
theorem qbv{l:List P2}(j k:Nat):ix l (j%l.length+k)=ix l (j+k):=by
 unfold ix;rw [Nat.mod_add_mod]
theorem qud{l:List P2}(j:Nat):ix l (j+l.length)=ix l j:=by
 unfold ix;rw [Nat.add_mod_right]
theorem quJ: ∀(m:List P2) (c:P2) (e:P2×P2),e∈prs c m-> ∃i,i<m.length/\(c::m)[i]? =some e.1/\(c::m)[i+1]? =some e.2
 | [],c,e,h=>by simp [prs] at h
 |b::m,c,e,h=>by
  simp only [prs] at h
  rcases List.mem_cons.1 h with rfl|h
  ·exact ⟨0,by simp,rfl,rfl⟩
  ·obtain ⟨i,h1,h2,h3⟩:=quJ m b e h
   exact ⟨i+1,by simp;omega,h2,h3⟩
theorem qe2{l:List P2}{i:Nat}{p:P2}(h:l[i]? =some p):ix l i=p:=by
 have hi:=(List.getElem?_eq_some_iff.1 h).1
 rw [qrQ hi];exact (List.getElem?_eq_some_iff.1 h).2
theorem RgS.cor{l:List P2}(h:RgS l)(j:Nat):orQ (ix l j) (ix l (j+1)) (ix l (j+2))≠0:=by
 have h0:0<l.length:=by have:=h.len;omega
 have hk:=h.fl ((j+1)%l.length) (Nat.mod_lt _ h0)
 unfold flB at hk
 rw [decide_eq_false_iff_not,qfI] at hk
 have e1:ix l ((j+1)%l.length+l.length-1)=ix l j:=by
  have:(j+1)%l.length+l.length-1=(j+1)%l.length+(l.length-1):=by omega
  rw [this,qbv,show j+1+(l.length-1)=j+l.length by omega,qud]
 have e2:ix l ((j+1)%l.length)=ix l (j+1):=by have:=qbv (l:=l) (j+1) 0;simpa using this
 have e3:ix l ((j+1)%l.length+1)=ix l (j+2):=qbv (l:=l) (j+1) 1
 rw [e1,e2,e3] at hk
 exact hk
theorem RgS.ne{l:List P2}(h:RgS l)(j:Nat):ix l j≠ix l (j+1):=(qpy (h.cor j)).1
theorem RgS.apart{l:List P2}(h:RgS l){i k:Nat}(hi:i<l.length)(hk:k<l.length)(h2:i+2<=k)(h3: ¬(i=0/\k=l.length-1)):Disj (ix l i) (ix l (i+1)) (ix l k) (ix l (k+1)):=by
 have hx:xB l i k=false:=by
  cases hb:xB l i k with
  |false=>rfl
  |true=>have:=qxW hi hk hb;rw [h.cr] at this;exact absurd this (by decide)
 refine qhb ?_ (h.ne i) (h.ne k)
 unfold xB at hx
 rw [decide_eq_true h2] at hx
 have:(decide (i=0)&&decide (k=l.length-1))=false:=by
  by_cases a:i=0
  ·rw [decide_eq_true a,decide_eq_false (fun b=>h3 ⟨a,b⟩)];rfl
  ·rw [decide_eq_false a];rfl
 rw [this] at hx
 simpa [ed] using hx
theorem RgS.simp{l:List P2}(h:RgS l):qeI l:=by
 have hl:=h.len
 have h0:0<l.length:=by omega
 refine ⟨hl.1,fun a b c r hr=> ?_,fun a b c r hr e he=> ?_⟩
 ·obtain ⟨j,hj⟩:=qup hr h0
  have e0:=hj 0
  have e1:=hj 1
  have e2:=hj 2
  have hlen:=hr.len
  rw [qe2 (p:=a) rfl] at e0
  rw [qe2 (p:=b) rfl] at e1
  rw [qe2 (p:=c) rfl] at e2
  rw [e0,e1,e2]
  exact h.cor j
 ·obtain ⟨j,hj⟩:=qup hr h0
  have hlen:=hr.len
  obtain ⟨i,i1,i2,i3⟩:=quJ _ _ _ he
  have e0:=hj 0
  have e1:=hj 1
  rw [qe2 (p:=a) rfl] at e0
  rw [qe2 (p:=b) rfl] at e1
  have e2:=hj (i+2)
  have e3:=hj (i+3)
  rw [qe2 (l:=a::b::c::r) (p:=e.1) i2] at e2
  rw [qe2 (l:=a::b::c::r) (p:=e.2) i3] at e3
  rw [e0,e1,e2,e3]
  simp only [List.length_cons] at hlen
  --the two places modulo the length
  obtain ⟨n,hn⟩: ∃n,n=l.length:=⟨_,rfl⟩
  have hA:=Nat.mod_lt j h0
  have hB:=Nat.mod_lt (j+(i+2)) h0
  have r0:ix l (j+0)=ix l (j%l.length):=by have:=qbv (l:=l) j 0;simpa using this.symm
  have r1:ix l (j+1)=ix l (j%l.length+1):=(qbv (l:=l) j 1).symm
  have r2:ix l (j+(i+2))=ix l ((j+(i+2))%l.length):=by have:=qbv (l:=l) (j+(i+2)) 0;simpa using this.symm
  have r3:ix l (j+(i+3))=ix l ((j+(i+2))%l.length+1):=(qbv (l:=l) (j+(i+2)) 1).symm
  rw [r0,r1,r2,r3]
  have hm:(j+(i+2))%l.length=if j%l.length+(i+2)<l.length then j%l.length+(i+2) else j%l.length+(i+2)-l.length:=by
   rw [<-Nat.mod_add_mod]
   split
   ·exact Nat.mod_eq_of_lt (by assumption)
   ·rw [Nat.mod_eq_sub_mod (by omega),Nat.mod_eq_of_lt (by omega)]
  by_cases hc:j%l.length+(i+2)<l.length
  ·rw [if_pos hc] at hm
   exact h.apart hA hB (by omega) (by omega)
  ·rw [if_neg hc] at hm
   exact Disj.swap (h.apart hB hA (by omega) (by omega))
theorem RgOk.s{l:List P2}(h:RgOk l):RgS l:=⟨h.len,h.fl,h.cr⟩
theorem RgOk.ne{l:List P2}(h:RgOk l)(j:Nat):ix l j≠ix l (j+1):=h.s.ne j
theorem RgOk.simp{l:List P2}(h:RgOk l):qeI l:=h.s.simp
theorem RgOk.area{l:List P2}(h:RgOk l):0<tot ar l:=h.pos
theorem qg5{p q:P2}{n:Nat}(hp:BP n p)(hq:BP n q)(hn:n<1000000000):Fun Tryz.prog 271 [pD p,pD q] [qas (crQ p q)] :=by
 refine qac (fun t=>t==4) mixed tOk Tryz.func271 rfl rfl ?_
 conv=>whnf
 refine qab (qhB (.mk hp.1 (by omega)) (.mk hq.2 (by omega))) ?_
 conv=>whnf
 refine qab (qhB (.mk hp.2 (by omega)) (.mk hq.1 (by omega))) ?_
 conv=>whnf
 refine qab (qpD (.mk (hp.1.mul hq.2) (by omega)) (.mk (hp.2.mul hq.1) (by omega))) ?_
 conv=>whnf
 refine qad (by kernel_rfl) ?_
 conv=>whnf
 refine ⟨?_,trivial⟩
 conv=>whnf
 exact ⟨rfl,rfl,rfl,trivial⟩
def doQ(p q:P2):Rat:=p.1*q.1+p.2*q.2
theorem qze{p q:P2}{n:Nat}(hp:BP n p)(hq:BP n q)(hn:n<1000000000):Fun Tryz.prog 415 [pD p,pD q] [qas (doQ p q)] :=by
 refine qac (fun t=>t==4) mixed tOk Tryz.func415 rfl rfl ?_
 conv=>whnf
 refine qab (qhB (.mk hp.1 (by omega)) (.mk hq.1 (by omega))) ?_
 conv=>whnf
 refine qab (qhB (.mk hp.2 (by omega)) (.mk hq.2 (by omega))) ?_
 conv=>whnf
 refine qab (qnD (.mk (hp.1.mul hq.1) (by omega)) (.mk (hp.2.mul hq.2) (by omega))) ?_
 conv=>whnf
 refine qad (by kernel_rfl) ?_
 conv=>whnf
 refine ⟨?_,trivial⟩
 conv=>whnf
 exact ⟨rfl,rfl,rfl,trivial⟩
theorem qb4{a b c:P2}{n:Nat}(ha:BP n a)(hb:BP n b)(hc:BP n c)(hn:n<100000000):Fun Tryz.prog 268 [pD a,pD b,pD c] [i64 (orI a b c)] :=by
 have qa:=ha.q (by omega)
 have qb:=hb.q (by omega)
 have qc:=hc.q (by omega)
 refine qac (fun t=>false) mixed tOk Tryz.func268 rfl rfl ?_
 conv=>whnf
 refine qab (qhW qb.1 qb.2 qa.1 qa.2) ?_
 conv=>whnf
 refine qab (qhW qc.1 qc.2 qa.1 qa.2) ?_
 conv=>whnf
 refine qab (qg5 (hb.su ha) (hc.su ha) (by omega)) ?_
 conv=>whnf
 refine qab (qjU (.mk ((hb.su ha).cr (hc.su ha)) (by omega))) ?_
 conv=>whnf
 refine qad (by kernel_rfl) ?_
 conv=>whnf
 refine ⟨?_,trivial⟩
 conv=>whnf
 unfold orI
 rfl
def beB(a b p:P2):Bool:=decide (orI a b p=0)&&decide (qfY (doQ (su a p) (su b p))<=0)
theorem qdx{a b c:P2}{n:Nat}(ha:BP n a)(hb:BP n b)(hc:BP n c)(hn:n<100000000):Fun Tryz.prog 346 [pD a,pD b,pD c] [.v (.bool (beB a b c))] :=by
 have qa:=ha.q (by omega)
 have qb:=hb.q (by omega)
 have qc:=hc.q (by omega)
 have hd:Q (doQ (su a c) (su b c)):= .mk (((ha.su hc).1.mul (hb.su hc).1).add ((ha.su hc).2.mul (hb.su hc).2)) (by omega)
 refine qac (fun t=>false) mixed tOk Tryz.func346 rfl rfl ?_
 conv=>whnf
 refine qaa rfl rfl (qb4 ha hb hc hn) ?_
 conv=>whnf
 refine qav (fun c1=> ?_) (fun c1=> ?_)
 ·rw [show beB a b c=false by unfold beB;rw [decide_eq_false c1];rfl]
  conv=>whnf
  refine ⟨?_,trivial⟩
  conv=>whnf
 ·rw [show beB a b c=decide (qfY (doQ (su a c) (su b c))<=0) by unfold beB;rw [decide_eq_true c1];rfl]
  conv=>whnf
  refine qab (qhW qa.1 qa.2 qc.1 qc.2) ?_
  conv=>whnf
  refine qab (qhW qb.1 qb.2 qc.1 qc.2) ?_
  conv=>whnf
  refine qab (qze (ha.su hc) (hb.su hc) (by omega)) ?_
  conv=>whnf
  refine qab (qjU hd) ?_
  conv=>whnf
  refine qad (by kernel_rfl) ?_
  conv=>whnf
  refine ⟨?_,trivial⟩
  conv=>whnf
  rw [qaJ]
theorem qeb{p q:P2}(hp:QP p)(hq:QP q):Fun Tryz.prog 144 [pD p,pD q] [i64 (cmP p q)] :=by
 have:=qu2 hp.1 hp.2 hq.1 hq.2
 unfold cmP;exact this
def qyp(p q:P2):P2:=if cmP p q<0 then q else p
def qzp(p q:P2):P2:=if cmP p q<0 then p else q
theorem qo4{p q:P2}(hp:QP p)(hq:QP q):Fun Tryz.prog 275 [pD p,pD q] [pD (qyp p q)] :=by
 refine qac (fun t=>t==4) mixed tOk Tryz.func275 rfl rfl ?_
 conv=>whnf
 refine qaa rfl rfl (qeb hp hq) ?_
 conv=>whnf
 refine qaf (fun c1=> ?_) (fun c1=> ?_)
 ·rw [show qyp p q=q by unfold qyp;rw [if_pos c1]]
  conv=>whnf
  refine ⟨?_,trivial⟩
  conv=>whnf
  exact ⟨rfl,rfl,rfl,rfl,rfl,rfl,trivial⟩
 ·rw [show qyp p q=p by unfold qyp;rw [if_neg c1]]
  conv=>whnf
  refine ⟨?_,trivial⟩
  conv=>whnf
  exact ⟨rfl,rfl,rfl,rfl,rfl,rfl,trivial⟩
theorem qpR{p q:P2}(hp:QP p)(hq:QP q):Fun Tryz.prog 276 [pD p,pD q] [pD (qzp p q)] :=by
 refine qac (fun t=>t==4) mixed tOk Tryz.func276 rfl rfl ?_
 conv=>whnf
 refine qaa rfl rfl (qeb hp hq) ?_
 conv=>whnf
 refine qaf (fun c1=> ?_) (fun c1=> ?_)
 ·rw [show qzp p q=p by unfold qzp;rw [if_pos c1]]
  conv=>whnf
  refine ⟨?_,trivial⟩
  conv=>whnf
  exact ⟨rfl,rfl,rfl,rfl,rfl,rfl,trivial⟩
 ·rw [show qzp p q=q by unfold qzp;rw [if_neg c1]]
  conv=>whnf
  refine ⟨?_,trivial⟩
  conv=>whnf
  exact ⟨rfl,rfl,rfl,rfl,rfl,rfl,trivial⟩
theorem qjh{l:List P2}{i:Nat}(h:i<l.length)(hl:l.length<=1000):Fun Tryz.prog 269 [.l (pL l),i64 i] [pD (l[(i+1)%l.length]'(qb0 h))] :=by
 have hll:(pL l).length=l.length:=by simp
 refine qac (fun t=>t==4) mixed tOk Tryz.func269 rfl rfl ?_
 conv=>whnf
 refine qak (by omega) ?_
 conv=>whnf
 refine qak (by omega) ?_
 conv=>whnf
 refine qae (pD (l[(i+1)%l.length]'(qb0 h))) (qlh h) (qrw _ _) (qaA l) ?_
 conv=>whnf
 refine ⟨?_,trivial⟩
 conv=>whnf
 exact ⟨rfl,rfl,rfl,rfl,rfl,rfl,trivial⟩
theorem qfJ{l:List P2}{i:Nat}(h:i<l.length)(hl:l.length<=1000):Fun Tryz.prog 269 [.l (pL l),i64 i] [pD (ix l (i+1))] :=by
 rw [qgq (by omega)]
 exact qjh h hl
theorem qfS{p:P2}{n:Nat}(hp:BP n p)(hn:n<1000000):Fun Tryz.prog 347 [pD p] [pD p] :=by
 have h0:Q 0:= .mk (qdZ 0 (n:=0) (by simp)) (by omega)
 have qp:=hp.q (by omega)
 have h:=quX qp.1 qp.2 h0 h0
 rw [Q.add0,Q.add0] at h
 refine qac (fun t=>t==2) mixed tOk Tryz.func347 rfl rfl ?_
 conv=>whnf
 refine qa5 rfl rfl h ?_ ?_
 ·rw [qBD];rfl
 ·conv=>whnf
  refine ⟨?_,trivial⟩
  conv=>whnf
  exact ⟨rfl,rfl,rfl,rfl,rfl,rfl,trivial⟩
def btB(s:P2×P2)(p:P2):Bool:=decide (cmP s.1 p<=0)&&decide (cmP p s.2<=0)
theorem qhD{a b p:P2}(ha:QP a)(hb:QP b)(hp:QP p):Fun Tryz.prog 280 [sD a b,pD p] [.v (.bool (btB (a,b) p))] :=by
 refine qac (fun t=>false) mixed tOk Tryz.func280 rfl rfl ?_
 conv=>whnf
 refine qaa rfl rfl (qeb ha hp) ?_
 conv=>whnf
 refine qaf (fun c1=> ?_) (fun c1=> ?_)
 ·rw [show btB (a,b) p=decide (cmP p b<=0) by unfold btB;rw [decide_eq_true c1];rfl]
  conv=>whnf
  refine qaa rfl rfl (qeb hp hb) ?_
  conv=>whnf
  refine ⟨?_,trivial⟩
  conv=>whnf
  rw [qaJ]
 ·rw [show btB (a,b) p=false by unfold btB;rw [decide_eq_false c1];rfl]
  conv=>whnf
  refine ⟨?_,trivial⟩
  conv=>whnf
def orS(a b:P2):P2×P2:=if 0<cmP a b then (b,a) else (a,b)
theorem qmW{a b:P2}{n:Nat}(ha:BP n a)(hb:BP n b)(hn:n<1000000):Fun Tryz.prog 274 [sD a b] [sD (orS a b).1 (orS a b).2] :=by
 have qa:=ha.q (by omega)
 have qb:=hb.q (by omega)
 refine qac (fun t=>t==2) mixed tOk Tryz.func274 rfl rfl ?_
 conv=>whnf
 refine qaa rfl rfl (qeb qa qb) ?_
 conv=>whnf
 refine qaf (fun c1=> ?_) (fun c1=> ?_)
 ·rw [show orS a b=(b,a) by unfold orS;rw [if_pos (by omega)]]
  conv=>whnf
  refine qab (qfS hb hn) ?_
  conv=>whnf
  refine qab (qfS ha hn) ?_
  conv=>whnf
  refine qad (by kernel_rfl) ?_
  conv=>whnf
  refine ⟨?_,trivial⟩
  conv=>whnf
  exact ⟨rfl,rfl,rfl,rfl,rfl,rfl,rfl,rfl,rfl,rfl,rfl,rfl,trivial⟩
 ·rw [show orS a b=(a,b) by unfold orS;rw [if_neg (by omega)]]
  conv=>whnf
  refine qab (qfS ha hn) ?_
  conv=>whnf
  refine qab (qfS hb hn) ?_
  conv=>whnf
  refine qad (by kernel_rfl) ?_
  conv=>whnf
  refine ⟨?_,trivial⟩
  conv=>whnf
  exact ⟨rfl,rfl,rfl,rfl,rfl,rfl,rfl,rfl,rfl,rfl,rfl,rfl,trivial⟩
end Go.Nv
end
