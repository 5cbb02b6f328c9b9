import Derived.Test.YtdjbkccoofcnjaaGreatNvD2
import Derived.Test.YtdjbkccoofcnjaaGreatNvP1
import Derived.Test.YtdjbkccoofcnjaaGreatNvP3
set_option linter.all false
set_option maxRecDepth 100000
section
namespace Go.Nv
open Go.Proofs Nw
theorem cyc_mem{l:List P2}{e:P2×P2}(h:e∈cyc l):e.1∈l∧e.2∈l:=by
 obtain ⟨i,hi,rfl⟩:=List.getElem_of_mem h
 rw [cyc_len] at hi
 rw [cyc_get hi]
 exact ⟨List.getElem_mem _,List.getElem_mem _⟩
abbrev qL(l:List Rat):List D:=l.map ratD
theorem qL_uni(l:List Rat):Uni 3 (qL l):=by
 intro x hx
 obtain ⟨p,_,rfl⟩:=List.mem_map.1 hx
 rfl
theorem hoL_zero{o:List P2}: ∀{hs:List (List (RD×RD))} {pre:List (List P2)},hoL o pre hs=0→ ∀h∈hs,rgR h=0
 | [],pre,_,h,hh=>by simp at hh
 |x::hs,pre,e,h,hh=>by
  rw [hoL] at e
  split at e
  ·rename_i h1;exact absurd e h1
  ·rename_i h1
   split at e
   ·rename_i h2;exact absurd e h2
   ·rcases List.mem_cons.1 hh with rfl|hh
    ·exact Classical.not_not.1 h1
    ·exact hoL_zero e h hh
theorem pgE_zero{o:List (RD×RD)}{hs:List (List (RD×RD))}(h:pgE o hs=0):rgR o=0∧(∀h∈hs,rgR h=0)∧hs.length≤8∧hoL (o.map vP) [] hs=0:=by
 unfold pgE at h
 split at h
 ·rename_i h1;exact absurd h h1
 ·rename_i h1
  split at h
  ·exact absurd h (by decide)
  ·rename_i h2
   exact ⟨Classical.not_not.1 h1,hoL_zero h,by omega,h⟩
structure PgOk (o:List (RD×RD)) (hs:List (List (RD×RD))) (n:Nat):Prop where
 lo:o.length≤100000
 lh:hs.length≤100000
 ob: ∀p∈o,BP n (vP p)∧SzP p
 hb: ∀h∈hs,∀p∈h,BP n (vP p)∧SzP p
 hl: ∀h∈hs,h.length≤100000
theorem pcheck_o{o:List (RD×RD)}{hs:List (List (RD×RD))}{n:Nat}(h:PgOk o hs n)(hn:n<1000000):Fun Tryz.prog 48 [pgR o hs] [i64 (pgE o hs)] :=pcheck_c o hs hn h.lo h.lh h.ob h.hb h.hl
theorem orI_zero{a b c:P2}:orI a b c=0↔orQ a b c=0:=by unfold orI;exact sgnI_zero
theorem cmpI_le{p q:Rat}:cmpI p q≤0↔p≤q:=by
 rw [cmpI_eq];unfold cmpQ
 by_cases h1:p<q
 ·rw [if_pos h1];constructor<;>intro h
  ·grind
  ·decide
 ·rw [if_neg h1]
  by_cases h2:q<p
  ·rw [if_pos h2];constructor<;>intro h
   ·exact absurd h (by decide)
   ·grind
  ·rw [if_neg h2];constructor<;>intro h
   ·grind
   ·decide
def leP(p q:P2):Prop:=p.1<q.1∨(p.1=q.1∧p.2≤q.2)
theorem cmP_le{p q:P2}:cmP p q≤0↔leP p q:=by
 unfold cmP leP
 by_cases h:cmpI p.1 q.1=0
 ·rw [if_pos h,cmpI_le]
  have:=cmpI_zero.1 h
  constructor
  ·intro h1;exact .inr ⟨this,h1⟩
  ·rintro (h1|⟨_,h1⟩)
   ·grind
   ·exact h1
 ·rw [if_neg h]
  have hne:p.1≠q.1:=fun e=>h (cmpI_zero.2 e)
  constructor
  ·intro h1;left;exact cmpI_neg.1 (by omega)
  ·rintro (h1|⟨h1,_⟩)
   ·have:=cmpI_neg.2 h1;omega
   ·exact absurd h1 hne
theorem leP_refl(p:P2):leP p p:= .inr ⟨rfl,Rat.le_refl⟩
theorem leP_trans{p q r:P2}(h:leP p q)(k:leP q r):leP p r:=by
 unfold leP at*;grind
theorem leP_total(p q:P2):leP p q∨leP q p:=by
 unfold leP
 by_cases h1:p.1<q.1
 ·exact .inl (.inl h1)
 ·by_cases h2:q.1<p.1
  ·exact .inr (.inl h2)
  ·by_cases h3:p.2≤q.2
   ·exact .inl (.inr ⟨by grind,h3⟩)
   ·exact .inr (.inr ⟨by grind,by grind⟩)
theorem leP_not{p q:P2}(h: ¬leP p q):leP q p:=(leP_total p q).resolve_left h
theorem leP_lin{p q:P2}(h:leP p q){t:Rat}(t0:0≤t)(t1:t≤1):leP p (lin p q t)∧leP (lin p q t) q:=by
 unfold leP at*
 simp only [lin]
 rcases h with h|⟨h1,h2⟩
 ·by_cases z:t=0
  ·subst z
   exact ⟨.inr ⟨by grind,by grind⟩,.inl (by grind)⟩
  ·by_cases o:t=1
   ·subst o
    exact ⟨.inl (by grind),.inr ⟨by grind,by grind⟩⟩
   ·have m1:=Rat.mul_pos (show 0<t by grind) (show 0<q.1-p.1 by grind)
    have m2:=Rat.mul_pos (show 0<1-t by grind) (show 0<q.1-p.1 by grind)
    exact ⟨.inl (by grind),.inl (by grind)⟩
 ·have m1:=Rat.mul_nonneg t0 (show 0≤q.2-p.2 by grind)
  have m2:=Rat.mul_nonneg (show 0≤1-t by grind) (show 0≤q.2-p.2 by grind)
  exact ⟨.inr ⟨by grind,by grind⟩,.inr ⟨by grind,by grind⟩⟩
theorem ordP_lin(a b:P2){t:Rat}(t0:0≤t)(t1:t≤1):leP (ordP a b).1 (lin a b t)∧leP (lin a b t) (ordP a b).2:=by
 unfold ordP
 by_cases h:0<cmP a b
 ·rw [if_pos h]
  have hn: ¬leP a b:=fun h1=>by have:=cmP_le.2 h1;omega
  have:=leP_lin (leP_not hn) (t:=1-t) (by grind) (by grind)
  rw [lin_swap] at this
  have e:(1:Rat)-(1-t)=t:=by grind
  rw [e] at this;exact this
 ·rw [if_neg h]
  have h':cmP a b≤0:=by omega
  exact leP_lin (cmP_le.1 h') t0 t1
theorem gtrP_le{p q r:P2}(h:leP p r)(k:leP q r):leP (gtrP p q) r:=by unfold gtrP;split<;>assumption
theorem lsrP_le{p q r:P2}(h:leP r p)(k:leP r q):leP r (lsrP p q):=by unfold lsrP;split<;>assumption
theorem unB_iff{t:Rat}:unB t=true↔0≤t∧t≤1:=by
 unfold unB
 rw [Bool.and_eq_true,decide_eq_true_eq,decide_eq_true_eq,cmpI_le]
 have:0≤sgnI t↔0≤t:=by
  rw [sgnI_eq];unfold sgnQ
  by_cases h1:t<0
  ·rw [if_pos h1];constructor<;>intro h
   ·exact absurd h (by decide)
   ·grind
  ·rw [if_neg h1]
   constructor<;>intro h
   ·grind
   ·split<;>decide
 rw [this]
theorem mtQ_none{a b c d:P2}(h:mtQ a b c d=none):Disj a b c d:=by
 intro s t s0 s1 t0 t1 heq
 have e1:=congrArg Prod.fst heq
 have e2:=congrArg Prod.snd heq
 simp only [lin] at e1 e2
 unfold mtQ at h
 by_cases hD:crQ (su b a) (su d c)=0
 ·rw [if_pos hD] at h
  by_cases hx:crQ (su b a) (su c a)=0
  ·rw [if_pos hx] at h
   have k1:=ordP_lin a b s0 s1
   have k2:=ordP_lin c d t0 t1
   rw [←heq] at k2
   have:leP (gtrP (ordP a b).1 (ordP c d).1) (lsrP (ordP a b).2 (ordP c d).2):=leP_trans (gtrP_le k1.1 k2.1) (lsrP_le k1.2 k2.2)
   rw [if_neg (by have:=cmP_le.2 this;omega)] at h
   exact absurd h (by simp)
  ·apply hx
   simp only [crQ,su] at hD ⊢
   have f1:c.1-a.1=(b.1-a.1)*s-(d.1-c.1)*t:=by grind
   have f2:c.2-a.2=(b.2-a.2)*s-(d.2-c.2)*t:=by grind
   rw [f1,f2]
   have:(b.1-a.1)*((b.2-a.2)*s-(d.2-c.2)*t)-(b.2-a.2)*((b.1-a.1)*s-(d.1-c.1)*t)= -t*((b.1-a.1)*(d.2-c.2)-(b.2-a.2)*(d.1-c.1)):=by grind
   rw [this,hD];grind
 ·rw [if_neg hD] at h
  have es:crQ (su c a) (su d c)/crQ (su b a) (su d c)=s:=by
   have:crQ (su c a) (su d c)=s*crQ (su b a) (su d c):=by
    simp only [crQ,su]
    have f1:c.1-a.1=(b.1-a.1)*s-(d.1-c.1)*t:=by grind
    have f2:c.2-a.2=(b.2-a.2)*s-(d.2-c.2)*t:=by grind
    rw [f1,f2];grind
   rw [this];grind
  have et:crQ (su c a) (su b a)/crQ (su b a) (su d c)=t:=by
   have:crQ (su c a) (su b a)=t*crQ (su b a) (su d c):=by
    simp only [crQ,su]
    have f1:c.1-a.1=(b.1-a.1)*s-(d.1-c.1)*t:=by grind
    have f2:c.2-a.2=(b.2-a.2)*s-(d.2-c.2)*t:=by grind
    rw [f1,f2];grind
   rw [this];grind
  rw [es,et,if_pos (by rw [unB_iff.2 ⟨s0,s1⟩,unB_iff.2 ⟨t0,t1⟩];rfl)] at h
  exact absurd h (by simp)
theorem mtB_false{a b c d:P2}(h:mtB a b c d=false)(hab:a≠b)(hcd:c≠d):Disj a b c d:=by
 refine mtQ_none ?_
 unfold mtB at h
 rw [decide_eq_false hab,decide_eq_false hcd] at h
 simpa using h
theorem Disj.swap{a b u v:P2}(h:Disj a b u v):Disj u v a b:=Nw.Disj.symm h
theorem rot_ix{l l':List P2}(h:Rot l l')(hl:0<l.length): ∃j,∀k,ix l' k=ix l (j+k):=by
 obtain ⟨x,y,rfl,rfl⟩:=h
 refine ⟨x.length,fun k=> ?_⟩
 unfold ix
 have hlen:(y++x).length=(x++y).length:=by simp;omega
 rw [hlen]
 have hn:(x++y).length=x.length+y.length:=List.length_append
 obtain ⟨n,hN⟩: ∃n,n=(x++y).length:=⟨_,rfl⟩
 rw [←hN] at hl ⊢
 have hk:=Nat.mod_lt k hl
 have e:(x.length+k)%n=if k%n<y.length then x.length+k%n else k%n-y.length:=by
  rw [←Nat.add_mod_mod]
  split
  ·exact Nat.mod_eq_of_lt (by omega)
  ·rw [Nat.mod_eq_sub_mod (by omega),Nat.mod_eq_of_lt (by omega)];omega
 rw [e]
 rw [List.getD_eq_getElem?_getD,List.getD_eq_getElem?_getD]
 by_cases hc:k%n<y.length
 ·rw [if_pos hc,List.getElem?_append_left hc,List.getElem?_append_right (by omega)]
  congr 2;omega
 ·rw [if_neg hc,List.getElem?_append_right (by omega),List.getElem?_append_left (by omega)]
theorem flat_none{l:List P2}(h: ¬0≤fstI (flB l) (List.range l.length)){i:Nat}(hi:i<l.length):flB l i=false:=by
 unfold fstI at h
 cases hf:List.findIdx? (flB l) (List.range l.length) with
 |some k=>rw [hf] at h;exact absurd (Int.natCast_nonneg k) h
 |none=>
  rw [List.findIdx?_eq_none_iff] at hf
  exact hf i (by simpa using hi)
structure RgS (l:List P2):Prop where
 len:3≤l.length∧l.length≤64
 fl: ∀i,i<l.length→flB l i=false
 cr:crB l=false
structure RgOk (l:List P2):Prop where
 len:3≤l.length∧l.length≤64
 fl: ∀i,i<l.length→flB l i=false
 cr:crB l=false
 pos:0<tot crQ l
 fst:kf l l.length=0
theorem tot_div{l:List P2}:(0<sgnI (tot crQ l/2))↔0<tot crQ l:=by
 rw [sgnI_eq];unfold sgnQ
 constructor
 ·intro h
  by_cases h1:tot crQ l/2<0
  ·rw [if_pos h1] at h;exact absurd h (by decide)
  ·rw [if_neg h1] at h
   by_cases h2:0<tot crQ l/2
   ·grind
   ·rw [if_neg h2] at h;exact absurd h (by decide)
 ·intro h
  rw [if_neg (by grind),if_pos (by grind)];decide
theorem rgE_zero{l:List P2}:rgE l=0↔RgOk l:=by
 unfold rgE
 constructor
 ·intro h
  split at h
  ·exact absurd h (by decide)
  ·rename_i h1
   split at h
   ·exact absurd h (by decide)
   ·rename_i h2
    split at h
    ·exact absurd h (by decide)
    ·rename_i h3
     split at h
     ·exact absurd h (by decide)
     ·rename_i h4
      refine ⟨by omega,fun i hi=>flat_none h2 hi,by simpa using h3,tot_div.1 (by omega),by omega⟩
 ·intro h
  have h2: ¬0≤fstI (flB l) (List.range l.length):=by
   unfold fstI
   rw [List.findIdx?_eq_none_iff.2 (fun i hi=>h.fl i (by simpa using hi))]
   decide
  have:=tot_div.2 h.pos
  have:=h.fst
  have:=h.len
  rw [if_neg (by omega),if_neg h2,if_neg (by rw [h.cr];decide),if_neg (by omega)]
theorem ix_add_mod{l:List P2}(j k:Nat):ix l (j%l.length+k)=ix l (j+k):=by
 unfold ix;rw [Nat.mod_add_mod]
theorem ix_per{l:List P2}(j:Nat):ix l (j+l.length)=ix l j:=by
 unfold ix;rw [Nat.add_mod_right]
theorem prs_ix: ∀(m:List P2) (c:P2) (e:P2×P2),e∈prs c m→ ∃i,i<m.length∧(c::m)[i]? =some e.1∧(c::m)[i+1]? =some e.2
 | [],c,e,h=>by simp [prs] at h
 |b::m,c,e,h=>by
  simp only [prs] at h
  rcases List.mem_cons.1 h with rfl|h
  ·exact ⟨0,by simp,rfl,rfl⟩
  ·obtain ⟨i,h1,h2,h3⟩:=prs_ix m b e h
   exact ⟨i+1,by simp;omega,h2,h3⟩
theorem ix_some{l:List P2}{i:Nat}{p:P2}(h:l[i]? =some p):ix l i=p:=by
 have hi:=(List.getElem?_eq_some_iff.1 h).1
 rw [ix_lt hi];exact (List.getElem?_eq_some_iff.1 h).2
theorem RgS.cor{l:List P2}(h:RgS l)(j:Nat):orQ (ix l j) (ix l (j+1)) (ix l (j+2))≠0:=by
 have h0:0<l.length:=by have:=h.len;omega
 have hk:=h.fl ((j+1)%l.length) (Nat.mod_lt _ h0)
 unfold flB at hk
 rw [decide_eq_false_iff_not,orI_zero] at hk
 have e1:ix l ((j+1)%l.length+l.length-1)=ix l j:=by
  have:(j+1)%l.length+l.length-1=(j+1)%l.length+(l.length-1):=by omega
  rw [this,ix_add_mod,show j+1+(l.length-1)=j+l.length by omega,ix_per]
 have e2:ix l ((j+1)%l.length)=ix l (j+1):=by have:=ix_add_mod (l:=l) (j+1) 0;simpa using this
 have e3:ix l ((j+1)%l.length+1)=ix l (j+2):=ix_add_mod (l:=l) (j+1) 1
 rw [e1,e2,e3] at hk
 exact hk
theorem RgS.ne{l:List P2}(h:RgS l)(j:Nat):ix l j≠ix l (j+1):=(orQ_ne (h.cor j)).1
theorem RgS.apart{l:List P2}(h:RgS l){i k:Nat}(hi:i<l.length)(hk:k<l.length)(h2:i+2≤k)(h3: ¬(i=0∧k=l.length-1)):Disj (ix l i) (ix l (i+1)) (ix l k) (ix l (k+1)):=by
 have hx:xB l i k=false:=by
  cases hb:xB l i k with
  |false=>rfl
  |true=>have:=crB_t hi hk hb;rw [h.cr] at this;exact absurd this (by decide)
 refine mtB_false ?_ (h.ne i) (h.ne k)
 unfold xB at hx
 rw [decide_eq_true h2] at hx
 have:(decide (i=0)&&decide (k=l.length-1))=false:=by
  by_cases a:i=0
  ·rw [decide_eq_true a,decide_eq_false (fun b=>h3 ⟨a,b⟩)];rfl
  ·rw [decide_eq_false a];rfl
 rw [this] at hx
 simpa [ed] using hx
theorem RgS.simp{l:List P2}(h:RgS l):Simp l:=by
 have hl:=h.len
 have h0:0<l.length:=by omega
 refine ⟨hl.1,fun a b c r hr=> ?_,fun a b c r hr e he=> ?_⟩
 ·obtain ⟨j,hj⟩:=rot_ix hr h0
  have e0:=hj 0
  have e1:=hj 1
  have e2:=hj 2
  have hlen:=hr.len
  rw [ix_some (p:=a) rfl] at e0
  rw [ix_some (p:=b) rfl] at e1
  rw [ix_some (p:=c) rfl] at e2
  rw [e0,e1,e2]
  exact h.cor j
 ·obtain ⟨j,hj⟩:=rot_ix hr h0
  have hlen:=hr.len
  obtain ⟨i,i1,i2,i3⟩:=prs_ix _ _ _ he
  have e0:=hj 0
  have e1:=hj 1
  rw [ix_some (p:=a) rfl] at e0
  rw [ix_some (p:=b) rfl] at e1
  have e2:=hj (i+2)
  have e3:=hj (i+3)
  rw [ix_some (l:=a::b::c::r) (p:=e.1) i2] at e2
  rw [ix_some (l:=a::b::c::r) (p:=e.2) i3] at e3
  rw [e0,e1,e2,e3]
  simp only [List.length_cons] at hlen
  --the two places modulo the length
  obtain ⟨n,hn⟩: ∃n,n=l.length:=⟨_,rfl⟩
  have hA:=Nat.mod_lt j h0
  have hB:=Nat.mod_lt (j+(i+2)) h0
  have r0:ix l (j+0)=ix l (j%l.length):=by have:=ix_add_mod (l:=l) j 0;simpa using this.symm
  have r1:ix l (j+1)=ix l (j%l.length+1):=(ix_add_mod (l:=l) j 1).symm
  have r2:ix l (j+(i+2))=ix l ((j+(i+2))%l.length):=by have:=ix_add_mod (l:=l) (j+(i+2)) 0;simpa using this.symm
  have r3:ix l (j+(i+3))=ix l ((j+(i+2))%l.length+1):=(ix_add_mod (l:=l) (j+(i+2)) 1).symm
  rw [r0,r1,r2,r3]
  have hm:(j+(i+2))%l.length=if j%l.length+(i+2)<l.length then j%l.length+(i+2) else j%l.length+(i+2)-l.length:=by
   rw [←Nat.mod_add_mod]
   split
   ·exact Nat.mod_eq_of_lt (by assumption)
   ·rw [Nat.mod_eq_sub_mod (by omega),Nat.mod_eq_of_lt (by omega)]
  by_cases hc:j%l.length+(i+2)<l.length
  ·rw [if_pos hc] at hm
   exact h.apart hA hB (by omega) (by omega)
  ·rw [if_neg hc] at hm
   exact Disj.swap (h.apart hB hA (by omega) (by omega))
theorem RgOk.s{l:List P2}(h:RgOk l):RgS l:=⟨h.len,h.fl,h.cr⟩
theorem RgOk.ne{l:List P2}(h:RgOk l)(j:Nat):ix l j≠ix l (j+1):=h.s.ne j
end Go.Nv
end
