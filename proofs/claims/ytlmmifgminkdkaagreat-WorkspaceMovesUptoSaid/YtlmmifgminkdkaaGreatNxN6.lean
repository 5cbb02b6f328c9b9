import Derived.LoopNIn
import Derived.Test.YtlmmifgminkdkaaGreatNxN5
set_option linter.all false
set_option maxRecDepth 100000
section
namespace Go.Nv
open Go.RowKit
def qAT(P:Program)(body:Code):Nat->St->(Ex->St->Prop)->Prop
 |0,_,_=>False
 |n+1,st,K=>Ok P body st (lpX (fun st'=>qAT P body n st' K) K)
def goN(P:Program)(T:Tb)(mu:Tmp->Bool)(body:Code):Nat->St->(Ex->St->Prop)->Prop
 |0,_,_=>False
 |n+1,st,K=>go P T mu body st (lpX (fun st'=>goN P T mu body n st' K) K)
section
variable {P:Program} {T:Tb} {st:St} {K:Ex->St->Prop} {body:Code}
theorem qkz(m:Nat)(h:qAT P body m st K):Ok P (.loop body) st K:=by
 intro n old bs w0 a W ι hr
 refine wpIn_loop_rounds m ?_
 induction m generalizing st a W ι with
 |zero=>exact h.elim
 |succ m ih=>
  refine wpIn_mono (h n old bs w0 a W ι hr) ?_
  rintro e a' W' ⟨x,st',ι',rfl,hk,hrel⟩
  cases x with
  |normal=>exact ih hk a' W' ι' hrel
  |exit i=>exact ⟨.exit i,st',ι',rfl,hk,hrel⟩
  |ret=>exact ⟨.ret,st',ι',rfl,hk,hrel⟩
theorem qtV(hm:P.follows .mixedOrders=true)(hT:qcG P T){mu:Tmp->Bool}: ∀(m:Nat) (st:St),goN P T mu body m st K->qAT P body m st K
 |0,st,h=>h
 |m+1,st,h=>by
  refine (qkV hm hT body _ _ h).mono fun e st' hk=> ?_
  cases e with
  |normal=>exact qtV hm hT m st' hk
  |exit i=>exact hk
  |ret=>exact hk
theorem qiv(m:Nat)(mu:Tmp->Bool)(hm:P.follows .mixedOrders=true)(hT:qcG P T)(h:goN P T mu body m st K):OkC P (.loop body) st K:=
 qcn (qkz m (qtV hm hT m st h))
end
end Go.Nv
end
section
namespace Go.Nv
open Go.RowKit
theorem qrS{P:Program}{c:Code}{st st':St}{K:Ex->St->Prop}(hw:qc4 st st')(h:OkC P c st' K):OkC P c st K:=by
 unfold OkC at*
 exact h.weak hw
theorem qyz{W:World}{ι:Nat->Value}{vr:Nat->Option (Option Nat)}{ok:Nat->Prop}{v:Value}(h:qaF W ι vr ok (.d (.v (.slice none 0 0))) v):v= .slice none 0 0:=by
 exact (qda h).1
theorem qqw(k j:Nat){ty:TypeId}{cs:List S}(e:TypeId)(size bytes:Nat){env:List S}{t:List B}(hk:tat t k= .box ty cs)(hj:cs[j]? =some (.d (.v (.slice none 0 0)))):
  qc4 ⟨env,t⟩ ⟨env,qaG (qaG t t.length (.row 0 e size bytes [])) k (.box ty (cs.set j (.own t.length 0)))⟩:=by
 intro old bs w0 a W ι hr
 have hgone:tat t t.length= .gone:=qb0 _
 have hkn:k≠t.length:=fun e=>by subst e;rw [hgone] at hk;cases hk
 have h1:=hr.tok.newNil hr.oldIn t.length hgone 0 e size bytes
 have hat1:tat (qaG t t.length (.row 0 e size bytes []))=at_ (tat t) t.length (.row 0 e size bytes []):=qaC ..
 have hat:tat (qaG (qaG t t.length (.row 0 e size bytes [])) k (.box ty (cs.set j (.own t.length 0))))=at_ (at_ (tat t) t.length (.row 0 e size bytes [])) k (.box ty (cs.set j (.own t.length 0))):=by
  rw [qaC,hat1]
 obtain ⟨ι1,hι⟩: ∃ι1,ι1=at_ ι t.length (.slice none 0 0):=⟨_,rfl⟩
 rw [<-hι] at h1
 obtain ⟨τ1,hτ⟩: ∃τ1,τ1=at_ (tat t) t.length (.row 0 e size bytes []):=⟨_,rfl⟩
 rw [<-hτ] at h1
 rw [<-hτ] at hat
 have hk1:τ1 k= .box ty cs:=by rw [hτ,qa6 _ _ hkn];exact hk
 have hn1:τ1 t.length= .row 0 e size bytes [] :=by rw [hτ,qam]
 have hin:ι1 t.length= .slice none 0 0:=by rw [hι,qam]
 have h2:qaw old bs W ι1 τ1 W (at_ ι1 k (ι1 k)) (at_ τ1 k (.box ty (cs.set j (.own t.length 0)))):=by
  refine h1.tok.upd hr.oldIn k _ _ (row:=none) ⟨rfl,rfl,rfl,Nat.le_refl _,fun _ _ _=>rfl⟩ (by simp) (fun b _ hb=> .inr ⟨by rw [hk1];rfl,hb⟩) (fun c hc=> ?_) (fun hkeep hok hv=> ?_)
  ·rw [hk1] at hc
   simp [B.ver] at hc;subst hc
   exact ⟨_,rfl,fun m hm=>⟨m,hm,Nat.le_refl _,fun _=>rfl⟩⟩
  ·have he:=h1.tok.ent k
   rw [hk1] at he
   obtain ⟨b,us,e1,e2,e3,e4,e5⟩:=he
   refine ⟨b,us,by rw [qam];exact e1,e2,e3, ?_,e5⟩
   have e6:=e4.keep (W':=W) hkeep hok hv
   obtain ⟨u,hu,hd⟩:=e4.at hj
   have hun:=qyz hd
   have e7:=e6.set (c:= .own t.length 0) (u:= .slice none 0 0) (.own (qaP (by show (at_ τ1 k _ t.length).ver=_;rw [qa6 _ _ (fun e=>hkn e.symm),hn1];rfl)) fun _=>by rw [qa6 _ _ (fun e=>hkn e.symm),hin]) j
   have e8:us.set j (.slice none 0 0)=us:=by
    rw [<-hun]
    apply List.ext_getElem?
    intro i
    rw [List.getElem?_set]
    split
    ·rename_i hij;subst hij
     split
     ·exact hu.symm
     ·rename_i hlt;exact absurd (List.getElem?_eq_some_iff.1 hu).1 hlt
    ·rfl
   rwa [e8] at e7
 have hι2:at_ ι1 k (ι1 k)=ι1:=by funext j;unfold at_;split<;>simp_all
 rw [hι2] at h2
 have hst:=h1.trans h2
 refine ⟨ι1,hr.defers,hr.oldIn,hr.fr, ?_, ?_, ?_, ?_,hr.rnd⟩
 ·show TOk W old bs ι1 (tat (qaG (qaG t t.length (.row 0 e size bytes [])) k (.box ty (cs.set j (.own t.length 0)))));rw [hat];exact hst.tok
 ·show qao W ι1 (qap (tat (qaG (qaG t t.length (.row 0 e size bytes [])) k (.box ty (cs.set j (.own t.length 0)))))) (okT bs (tat (qaG (qaG t t.length (.row 0 e size bytes [])) k (.box ty (cs.set j (.own t.length 0))))) ι1) env a.tmps.toList
  rw [hat];exact hst.sdenL hr.env
 ·show∀i,qdX W old ι1 (qap (tat (qaG (qaG t t.length (.row 0 e size bytes [])) k (.box ty (cs.set j (.own t.length 0)))))) (okT bs (tat (qaG (qaG t t.length (.row 0 e size bytes [])) k (.box ty (cs.set j (.own t.length 0))))) ι1) (w0.gs i) i (tat (qaG (qaG t t.length (.row 0 e size bytes [])) k (.box ty (cs.set j (.own t.length 0)))) i)
  rw [hat];exact hr.ghStep hst
 ·show∀i i',(tat (qaG (qaG t t.length (.row 0 e size bytes [])) k (.box ty (cs.set j (.own t.length 0)))) i).isLoop=true->(tat (qaG (qaG t t.length (.row 0 e size bytes [])) k (.box ty (cs.set j (.own t.length 0)))) i').isLoop=true->(w0.gs i).l=(w0.gs i').l->i=i'
  rw [hat];exact hr.lapStep hst
def qrU(k j:Nat)(e:TypeId)(size bytes:Nat)(st:St):St:=
 match qcT st.t k with
 | .box ty cs=>match lk cs j with
  | .d (.v (.slice none 0 0))=>⟨st.env,qaY (qaY st.t (qck st.t) (.row 0 e size bytes [])) k (.box ty (st1 cs j (.own (qck st.t) 0)))⟩
  |_=>st
 |_=>st
theorem qmC(k j:Nat)(e:TypeId)(size bytes:Nat)(st:St):qc4 st (qrU k j e size bytes st):=by
 unfold qrU
 rw [qbd]
 split
 ·rename_i ty cs hk
  split
  ·rename_i hj
   rw [qj3] at hj
   have hj':cs[j]? =some (.d (.v (.slice none 0 0))):=by
    rw [List.getD_eq_getElem?_getD] at hj
    cases hq:cs[j]? with
    |none=>rw [hq] at hj;simp at hj
    |some q=>rw [hq] at hj;simpa using hj
   rw [qbS,qaT,qp5]
   exact qqw k j e size bytes hk hj'
  ·exact .refl _
 ·exact .refl _
theorem qma(k j:Nat)(e:TypeId)(size bytes:Nat){P:Program}{c:Code}{st:St}{K:Ex->St->Prop}(h:OkC P c (qrU k j e size bytes st) K):OkC P c st K:=qrS (qmC k j e size bytes st) h
end Go.Nv
end
section
namespace Go.Nv
open Go.RowKit
section
variable {P:Program} {mu:Tmp->Bool} {ops:Array Oper} {old bs:Nat->Prop} {w0:Ctx} {r:Option Nat} {n:Nat}
theorem qih{A S:Nat->Bool}{es:List Ent}{st0:St}(hes:es.map (·.o)=ops.toList)(hok: ∀i e,es[i]? =some e->A i=true->qeS P mu ops (stL (fun j=>decide (j<i)) 0 es st0) e)
  (hupd: ∀(i:Nat) (e:Ent),es[i]? =some e->e.l.upd=e.upd.map (·.1)) (hsafe:qgC ops (es.map (·.l))=true)
  {Q:Exit->Act->World->Prop} (hQ:(∀j,j<ops.size->S j=true\/A j=true)-> ∀a W ι,Rel old bs w0 ι (stL (fun _=>true) 0 es st0) a W->Q .normal a W)
  (hY: ∀(fuel:Nat) (listed:Array Bool) (a:Act) (W:World) (ι:Nat->Value) (i:Nat),i<ops.size->A i=false->listed.getD i false=false->(∀y,ops[i]? =some y-> ∀ed∈y.after.toList,Region.binds .any ed=true->listed.getD ed.on false=true)->
   ((∀j,listed.getD j false=true->S j=true\/A j=true)/\ ∀j,S j=true->listed.getD j false=true)->listed.size=ops.size->Closed ops (fun j=>listed.getD j false)->Closed ops (fun j=>(listed.setIfInBounds i true).getD j false)->(List.range ops.size).countP (fun j=> !listed.getD j false)<=fuel+1->
   Rel old bs w0 ι (stL (fun j=>listed.getD j false) 0 es st0) a W->wpOpIn (FW r) n P ops Q i (wpAnyIn (FW r) n P .any ops Q fuel (listed.setIfInBounds i true)) a W):
  ∀(fuel:Nat) (listed:Array Bool) (a:Act) (W:World) (ι:Nat->Value),listed.size=ops.size->Closed ops (fun j=>listed.getD j false)->((∀j,listed.getD j false=true->S j=true\/A j=true)/\ ∀j,S j=true->listed.getD j false=true)->(List.range ops.size).countP (fun j=> !listed.getD j false)<=fuel->
   Rel old bs w0 ι (stL (fun j=>listed.getD j false) 0 es st0) a W->wpAnyIn (FW r) n P .any ops Q fuel listed a W:=by
 have hlen:es.length=ops.size:=by have:=congrArg List.length hes;simpa using this
 have hop: ∀(i:Nat) (e:Ent),es[i]? =some e->ops[i]? =some e.o:=by
  intro i e he
  have:(es.map (·.o))[i]? =ops.toList[i]? :=by rw [hes]
  rw [List.getElem?_map,he] at this
  simpa using this.symm
 --nothing is ready:all are listed
 have allIn: ∀(listed:Array Bool),listed.size=ops.size->Region.ready .any ops listed= [] -> ∀j,j<ops.size->listed.getD j false=true:=by
  intro listed hsz hr j
  induction j using Nat.strongRecOn with
  |ind j ih=>
   intro hj
   by_cases hl:listed.getD j false=true
   ·exact hl
   ·exfalso
    have hmem:j∈Region.ready .any ops listed:=by
     unfold Region.ready
     refine List.mem_filter.2 ⟨by simpa using hj, ?_⟩
     have h1:listed.getD j true=false:=by
      have hjs:j<listed.size:=by omega
      simp only [Array.getD_eq_getD_getElem?,Array.getElem?_eq_getElem hjs,Option.getD_some] at hl ⊢
      simpa using hl
     rw [Array.getElem?_eq_getElem hj]
     simp only [h1,Option.map_some,Option.getD_some,Bool.not_false,Bool.true_and]
     rw [Array.all_eq_true']
     intro e he
     cases hb:Region.binds .any e with
     |false=>rfl
     |true=>
      have:=qkE hsafe (Array.getElem?_eq_getElem hj) e (by simpa using he) hb
      simp [ih e.on this (by omega)]
    rw [hr] at hmem;simp at hmem
 have done: ∀(listed:Array Bool) (a:Act) (W:World) (ι:Nat->Value),(∀j,listed.getD j false=true->S j=true\/A j=true)->(∀j,j<ops.size->listed.getD j false=true)->Rel old bs w0 ι (stL (fun j=>listed.getD j false) 0 es st0) a W->Q .normal a W:=by
  intro listed a W ι hinv hall h
  refine hQ (fun j hj=>hinv j (hall j hj)) a W ι ?_
  rw [<-qhw 0 es st0 (L:=fun j=>listed.getD j false) (L':=fun _=>true) (fun j hj=>by simpa using hall j (by omega))]
  exact h
 intro fuel
 induction fuel with
 |zero=>
  intro listed a W ι hsz hcl hinv hcnt h
  have hall: ∀j,j<ops.size->listed.getD j false=true:=by
   intro j hj
   have h0:(List.range ops.size).countP (fun j=> !listed.getD j false)=0:=by omega
   rw [List.countP_eq_zero] at h0
   have:=h0 j (by simpa using hj)
   simpa using this
  refine ⟨?_,done listed a W ι hinv.1 hall h⟩
  unfold Region.ready
  rw [List.filter_eq_nil_iff]
  intro j hj
  have hj:j<ops.size:=by simpa using hj
  have:=hall j hj
  have hjs:j<listed.size:=by omega
  simp only [Array.getD_eq_getD_getElem?,Array.getElem?_eq_getElem hjs,Option.getD_some] at this ⊢
  simp [this]
 |succ fuel ih=>
  intro listed a W ι hsz hcl hinv hcnt h
  refine ⟨fun hr=>done listed a W ι hinv.1 (allIn listed hsz hr) h,fun i hi=> ?_⟩
  unfold Region.ready at hi
  obtain ⟨hi1,hi2⟩:=List.mem_filter.1 hi
  have hin:i<ops.size:=by simpa using hi1
  have his:i<listed.size:=by omega
  obtain ⟨e,he⟩: ∃e,es[i]? =some e:=⟨es[i],List.getElem?_eq_getElem (by omega)⟩
  have hoi:=hop i e he
  rw [hoi] at hi2
  simp only [Option.map_some,Option.getD_some,Bool.and_eq_true,Bool.not_eq_true'] at hi2
  obtain ⟨hi2,hi3⟩:=hi2
  rw [Array.all_eq_true'] at hi3
  have hLi:listed.getD i false=false:=by
   simp only [Array.getD_eq_getD_getElem?,Array.getElem?_eq_getElem his,Option.getD_some] at hi2 ⊢;exact hi2
  --the new list
  have hL': ∀j,(listed.setIfInBounds i true).getD j false=if j=i then true else listed.getD j false:=by
   intro j
   simp only [Array.getD_eq_getD_getElem?,Array.getElem?_setIfInBounds]
   by_cases e:i=j
   ·subst e;simp [his]
   ·rw [if_neg e,if_neg (fun e'=>e e'.symm)]
  have hcl':Closed ops (fun j=>(listed.setIfInBounds i true).getD j false):=by
   intro j y hy hj ed hed hb
   simp only [hL'] at hj ⊢
   by_cases ej:j=i
   ·subst ej
    have hyo:y=e.o:=by rw [hoi] at hy;simpa using hy.symm
    subst hyo
    have:=hi3 ed (by simpa using hed)
    simp only [hb,Bool.not_true,Bool.false_or] at this
    split
    ·rfl
    ·exact this
   ·rw [if_neg ej] at hj
    have:=hcl j y hy hj ed hed hb
    split
    ·rfl
    ·exact this
  cases hA:A i with
  |false=>
   refine hY fuel listed a W ι i hin hA hLi (fun y hy ed hed hb=> ?_) hinv hsz hcl hcl' hcnt h
   have hyo:y=e.o:=by rw [hoi] at hy;simpa using hy.symm
   subst hyo
   have:=hi3 ed (by simpa using hed)
   simpa only [hb,Bool.not_true,Bool.false_or] using this
  |true=>
  have hok_i:=hok i e he hA
  have hinv':(∀j,(listed.setIfInBounds i true).getD j false=true->S j=true\/A j=true)/\ ∀j,S j=true->(listed.setIfInBounds i true).getD j false=true:=by
   constructor
   ·intro j hj
    rw [hL'] at hj
    split at hj
    ·rename_i e;subst e;exact .inr hA
    ·exact hinv.1 j hj
   ·intro j hj
    rw [hL']
    split
    ·rfl
    ·exact hinv.2 j hj
  --what meets it is in order
  have meets: ∀(j:Nat) (ej:Ent),es[j]? =some ej->(qbH ops ej.o e.o ej.l e.l=true\/qbH ops e.o ej.o e.l ej.l=true)->(j<i->qbH ops ej.o e.o ej.l e.l=true)->(i<j->qbH ops e.o ej.o e.l ej.l=true)->listed.getD j false=decide (j<i):=by
   intro j ej hej _ h1 h2
   have hlj:(es.map (·.l)).getD j ⟨[],none⟩=ej.l:=by simp [List.getD_eq_getElem?_getD,hej]
   have hli:(es.map (·.l)).getD i ⟨[],none⟩=e.l:=by simp [List.getD_eq_getElem?_getD,he]
   rcases Nat.lt_trichotomy j i with hlt|heq|hgt
   ·have hb:=qfE hsafe hlt (hop j ej hej) hoi (by rw [hlj,hli];exact h1 hlt)
    have:=qce hcl' i j hb (by simp [hL'])
    simp only [hL'] at this
    rw [if_neg (by omega)] at this
    simp [this,hlt]
   ·subst heq;simp [hLi]
   ·have hb:=qfE hsafe hgt hoi (hop j ej hej) (by rw [hlj,hli];exact h2 hgt)
    cases hlj2:listed.getD j false with
    |false=>simp;omega
    |true=>
     have:=qce hcl j i hb hlj2
     rw [hLi] at this;simp at this
  have look: ∀d,d∈e.o.looksAt ops-> ∀(j:Nat) (ej:Ent),es[j]? =some ej->ej.o.dst=some d->listed.getD j false=decide (j<i):=by
   intro d hd j ej hej hdst
   have m1:qbH ops ej.o e.o ej.l e.l=true:=by
    unfold qbH;simp [hdst,hd]
   have m2:qbH ops e.o ej.o e.l ej.l=true:=by
    unfold qbH;simp [hdst,hd]
   exact meets j ej hej (.inl m1) (fun _=>m1) (fun _=>m2)
  have same: ∀d,e.o.dst=some d-> ∀(j:Nat) (ej:Ent),es[j]? =some ej->ej.o.dst=some d->listed.getD j false=decide (j<i):=by
   intro d hd j ej hej hdst
   have m1:qbH ops ej.o e.o ej.l e.l=true:=by
    unfold qbH;simp [hdst,hd]
   have m2:qbH ops e.o ej.o e.l ej.l=true:=by
    unfold qbH;simp [hdst,hd]
   exact meets j ej hej (.inl m1) (fun _=>m1) (fun _=>m2)
  have tch: ∀k,(k∈e.l.tch\/e.l.upd=some k)-> ∀(j:Nat) (ej:Ent),es[j]? =some ej->ej.upd.map (·.1)=some k->listed.getD j false=decide (j<i):=by
   intro k hk j ej hej hu
   have hu':ej.l.upd=some k:=by rw [hupd j ej hej];exact hu
   have m1:qbH ops ej.o e.o ej.l e.l=true:=by
    unfold qbH;rcases hk with hk|hk<;>simp [hu',hk]
   have m2:qbH ops e.o ej.o e.l ej.l=true:=by
    unfold qbH;rcases hk with hk|hk<;>simp [hu',hk]
   exact meets j ej hej (.inl m1) (fun _=>m1) (fun _=>m2)
  generalize hsL:stL (fun j=>listed.getD j false) 0 es st0=sL at h
  generalize hsi:stL (fun j=>decide (j<i)) 0 es st0=si at hok_i
  have hslot: ∀d,d∈e.o.looksAt ops->sL.env.getD d .top=si.env.getD d .top:=by
   intro d hd
   rw [<-hsL, <-hsi]
   exact qeN 0 es st0 st0 rfl rfl fun j ej hej hdst=>by simpa using look d hd j ej hej hdst
  have hσ: ∀x∈e.o.op.operands.toList,ev si.env x=ev sL.env x:=by
   intro x hx
   cases x with
   |tmp d=>
    refine (hslot d ?_).symm
    unfold Oper.looksAt
    exact List.mem_append_left _ (List.mem_filterMap.2 ⟨_,hx,rfl⟩)
   |_=>rfl
  have hτ: ∀k,(k∈e.l.tch\/e.l.upd=some k)->tat si.t k=tat sL.t k:=by
   intro k hk
   rw [<-hsL, <-hsi]
   exact (qeO 0 es st0 st0 rfl fun j ej hej hu=>by simpa using tch k hk j ej hej hu).symm
  --what comes of it
  have after: ∀a' W' ι',Rel old bs w0 ι' (qaJ sL e) a' W'->wpAnyIn (FW r) n P .any ops Q fuel (listed.setIfInBounds i true) a' W':=by
   intro a' W' ι' hrel
   refine ih _ _ _ ι' (by simpa using hsz) hcl' hinv' ?_ ?_
   ·have hlt:(List.range ops.size).countP (fun j=> !(listed.setIfInBounds i true).getD j false)<(List.range ops.size).countP (fun j=> !listed.getD j false):=
     qhC (p:=fun j=> !(listed.setIfInBounds i true).getD j false) (q:=fun j=> !listed.getD j false) (fun j _ h=>by
      have h:(!(listed.setIfInBounds i true).getD j false)=true:=h
      rw [hL'] at h
      split at h
      ·simp at h
      ·exact h) (i:=i) (by simpa using hin) (by show (!listed.getD i false)=true;rw [hLi];rfl) (by show (!(listed.setIfInBounds i true).getD i false)=false;rw [hL',if_pos rfl];rfl)
    omega
   ·have hstep: ∀st:St,(es.take (i+1)).foldl qaJ st=qaJ ((es.take i).foldl qaJ st) e:=by
     intro st
     have hi':i<es.length:=by omega
     rw [List.take_succ_eq_append_getElem hi',List.foldl_append]
     have:es[i] =e:=(List.getElem?_eq_some_iff.1 he).2
     rw [this];rfl
    have hsi2:stL (fun j=>decide (j<i+1)) 0 es st0=qaJ si e:=by
     have h1:=qg2 es 0 (i+1) st0
     have h2:=qg2 es 0 i st0
     simp only [Nat.zero_add] at h1 h2
     rw [h1,hstep, <-h2,hsi]
    have l1:(qaJ sL e).env.length=st0.env.length:=by simp only [qaJ,qcH];rw [<-hsL,qdz]
    have l2:(stL (fun j=>(listed.setIfInBounds i true).getD j false) 0 es st0).env.length=st0.env.length:=qdz _ _ _ _
    have l3:si.env.length=st0.env.length:=by rw [<-hsi,qdz]
    refine hrel.congr ?_ ?_
    ·apply List.ext_getElem?
     intro d
     have key:(qaJ sL e).env.getD d .top=(stL (fun j=>(listed.setIfInBounds i true).getD j false) 0 es st0).env.getD d .top:=by
      by_cases hd:e.o.dst=some d
      ·have h1:(stL (fun j=>(listed.setIfInBounds i true).getD j false) 0 es st0).env.getD d .top=(stL (fun j=>decide (j<i+1)) 0 es st0).env.getD d .top:=
        qeN 0 es st0 st0 rfl rfl fun j ej hej hdst=>by
         have:=same d hd j ej hej hdst
         simp only [Nat.zero_add,hL',this]
         by_cases e1:j=i
         ·subst e1;simp
         ·rw [if_neg e1];apply decide_eq_decide.2;omega
       rw [h1,hsi2]
       simp only [qaJ,hd,qfo]
       rw [l3, <-hsL,qdz]
      ·have h1:(stL (fun j=>(listed.setIfInBounds i true).getD j false) 0 es st0).env.getD d .top=sL.env.getD d .top:=by
        rw [<-hsL]
        exact qeN 0 es st0 st0 rfl rfl fun j ej hej hdst=>by
         simp only [Nat.zero_add,hL']
         by_cases e1:j=i
         ·subst e1;rw [he] at hej;simp at hej;subst hej;exact absurd hdst hd
         ·rw [if_neg e1]
       rw [h1]
       simp only [qaJ,qlv hd]
     rcases Nat.lt_or_ge d st0.env.length with hlt|hge
     ·rw [List.getElem?_eq_getElem (by rw [l1];exact hlt),List.getElem?_eq_getElem (by rw [l2];exact hlt)]
      rw [List.getD_eq_getElem?_getD,List.getD_eq_getElem?_getD,List.getElem?_eq_getElem (by rw [l1];exact hlt),List.getElem?_eq_getElem (by rw [l2];exact hlt)] at key
      simpa using key
     ·rw [List.getElem?_eq_none (by rw [l1];exact hge),List.getElem?_eq_none (by rw [l2];exact hge)]
    ·intro k
     by_cases hk:e.upd.map (·.1)=some k
     ·have h1:tat (stL (fun j=>(listed.setIfInBounds i true).getD j false) 0 es st0).t k=tat (stL (fun j=>decide (j<i+1)) 0 es st0).t k:=
       qeO 0 es st0 st0 rfl fun j ej hej hu=>by
        have:=tch k (.inr (by rw [hok_i.updl];exact hk)) j ej hej hu
        simp only [Nat.zero_add,hL',this]
        by_cases e1:j=i
        ·subst e1;simp
        ·rw [if_neg e1];apply decide_eq_decide.2;omega
      rw [h1,hsi2,qcz,qcz]
      cases hu:e.upd with
      |none=>rw [hu] at hk;simp at hk
      |some x=>rw [hu] at hk;simp at hk;simp only [qqW, <-hk,qam]
     ·have h1:tat (stL (fun j=>(listed.setIfInBounds i true).getD j false) 0 es st0).t k=tat sL.t k:=by
       rw [<-hsL]
       exact qeO 0 es st0 st0 rfl fun j ej hej hu=>by
        simp only [Nat.zero_add,hL']
        by_cases e1:j=i
        ·subst e1;rw [he] at hej;simp at hej;subst hej;exact absurd hu hk
        ·rw [if_neg e1]
      rw [h1,qcz]
      cases hu:e.upd with
      |none=>rfl
      |some x=>rw [hu] at hk;simp at hk;simp only [qqW];rw [qa6 _ _ (fun e=>hk e.symm)]
  show wpOpIn (FW r) n P ops Q i (wpAnyIn (FW r) n P .any ops Q fuel (listed.setIfInBounds i true)) a W
  unfold wpOpIn
  simp only [hoi]
  --the guard
  have hwant:Region.wanted e.o (yielded ops a.tmps)=e.run:=by
   have hg:=hok_i.1
   unfold qek at hg
   unfold Region.wanted
   split at hg
   ·rename_i hgd;rw [hgd,hg]
   ·rename_i j w hgd
    rcases hg with ⟨d,b,hd,hv,hrun⟩|⟨d,hd,hv,hrun⟩
    case inr=>
     rw [hgd]
     simp only
     have hmem:d∈e.o.looksAt ops:=by
      unfold Oper.looksAt
      refine List.mem_append_right _ ?_
      rw [hgd]
      simp [hd]
     have hs:=hslot d hmem
     have hsd:=h.ev (.tmp d)
     have hv2:ev sL.env (.tmp d)= .tup [] :=by simp only [ev] at hv ⊢;rw [hs];exact hv
     rw [hv2] at hsd
     rw [qcJ hd (qkL hsd),hrun];rfl
    rw [hgd]
    simp only
    have hmem:d∈e.o.looksAt ops:=by
     unfold Oper.looksAt
     refine List.mem_append_right _ ?_
     rw [hgd]
     simp [hd]
    have hs:=hslot d hmem
    have hsd:=h.ev (.tmp d)
    have hv2:ev sL.env (.tmp d)= .d (.v (.bool b)):=by simp only [ev] at hv ⊢;rw [hs];exact hv
    rw [hv2] at hsd
    have hval:=(qda hsd).1
    have hy:yielded ops a.tmps j=some b:=by
     unfold yielded
     rw [hd]
     simp only [Option.bind_some]
     have:a.tmps.getD d undef= .bool b:=hval
     cases hq:a.tmps[d]? with
     |none=>rw [Array.getD_eq_getD_getElem?,hq] at this;simp [undef] at this
     |some q=>rw [Array.getD_eq_getD_getElem?,hq] at this;simp at this;rw [this]
    rw [hy,hrun];rfl
  rw [hwant]
  cases hrun:e.run with
  |true=>
   rw [if_pos rfl]
   have hf:=hok_i.2.1 hrun
   have hgone:(∃b,e.upd=some (si.t.length,b))->tat sL.t si.t.length= .gone:=by
    rintro ⟨b,hb⟩
    rw [<-hτ _ (.inr (by rw [hok_i.updl,hb];rfl))]
    exact qb0 _
   obtain ⟨k2,l',hk2,hf2⟩:=hf.local hσ (fun k hk=>hτ k (.inl hk)) (qb0 sL.t) hgone
   exact hf2.sound h hk2 fun a' W' ι' hrel=>after a' W' ι' hrel
  |false=>
   rw [if_neg (by simp)]
   refine ⟨fun f _=>FW.fn r f, ?_⟩
   obtain ⟨h1,h2,_⟩:=hok_i.2.2 hrun
   refine after _ _ ι ?_
   have:=h.put (dst:=e.o.dst) (s:= .tup []) (v:=undef) (t:=sL.t) (qaw.refl h.tok) (qhq _ _ _ _)
   have e1:qaJ sL e=⟨qe9 sL.env e.o.dst (.tup []),sL.t⟩:=by simp only [qaJ,h1,h2,qjV]
   rw [e1];exact this
end
end Go.Nv
end
section
namespace Go.Nv
open Go.RowKit
def dum(st:St)(o:Oper):Ent:=⟨o,true,match o.dst with|some d=>st.env.getD d .top|none=> .top,none,⟨[],none⟩⟩
theorem qAM(st:St)(l:List Oper):(l.map (dum st)).map (·.o)=l:=by rw [List.map_map];exact List.map_id'' (fun _=>rfl) l
theorem qAy(st:St)(l:List Oper):(l.map (dum st)).map (·.l)=List.replicate l.length ⟨[],none⟩:=by
 rw [List.map_map];induction l with
 |nil=>rfl
 |cons o l ih=>simp only [List.map_cons,ih,List.length_cons,List.replicate_succ];rfl
theorem qji{st:St}: ∀(l:List Oper),(l.map (dum st)).foldl qaJ st=st
 | [] =>rfl
 |o::l=>by
  rw [List.map_cons,List.foldl_cons]
  have:qaJ st (dum st o)=st:=by
   simp only [qaJ,qjV,dum]
   cases hd:o.dst with
   |none=>rfl
   |some d=>
    simp only [qe9]
    have:st.env.set d (st.env.getD d .top)=st.env:=by
     apply List.ext_getElem?
     intro i
     rw [List.getElem?_set]
     split
     ·rename_i e;subst e
      split
      ·rename_i h;rw [List.getD_eq_getElem?_getD,List.getElem?_eq_getElem h];rfl
      ·rename_i h;rw [List.getElem?_eq_none (by omega)]
     ·rfl
    rw [this]
  rw [this];exact qji l
def qxm(ops:Array Oper)(p:Nat):Bool:=
 let bs:=qxN ops.toList
 (List.range ops.size).all fun j=>
  match Nat.blt j p with
  |true=>(bs.getD p 0).testBit j
  |false=>match Nat.blt p j with
   |true=>(bs.getD j 0).testBit p
   |false=>true
theorem qyA{ops:Array Oper}{p j:Nat}(h:qxm ops p=true)(hp:p<ops.size)(hj:j<p):((qxN ops.toList).getD p 0).testBit j=true:=by
 unfold qxm at h
 have:=List.all_eq_true.1 h j (by simp;omega)
 have e:Nat.blt j p=true:=by simpa [Nat.blt_eq] using hj
 simpa [e] using this
theorem qyL{ops:Array Oper}{p j:Nat}(h:qxm ops p=true)(hj:j<ops.size)(hp:p<j):((qxN ops.toList).getD j 0).testBit p=true:=by
 unfold qxm at h
 have:=List.all_eq_true.1 h j (by simp;omega)
 have e:Nat.blt p j=true:=by simpa [Nat.blt_eq] using hp
 have e2:Nat.blt j p=false:=by
  cases hh:Nat.blt j p with
  |false=>rfl
  |true=>rw [Nat.blt_eq] at hh;omega
 simpa [e,e2] using this
def quj(n:Nat):List qcO:=List.replicate n ⟨[],none⟩
section
variable {P:Program} {T:Tb} {mu:Tmp->Bool}
theorem qnj(hm:P.follows .mixedOrders=true)(hT:qcG P T){id:Nat}{ops:Array Oper}(p:Nat){y:Oper}(hy:ops[p]? =some y)(hg:y.guard=none){f:Operand}{args:List Operand}{ts:_}
  (hop:y.op= .call {callee:= .value f,args:=args.toArray,argTypes:=ts}) (hmid:qxm ops p=true) {st:St} {K:Ex->St->Prop}
  (h:qdI P T mu ops.toList (ops.toList.take p) [] st fun ls1 st1=>qhy ops (ls1++quj (ops.size-p)) (qbJ P f args y.dst st1 fun st2=>
   qdI P T mu ops.toList (ops.toList.drop (p+1)) (quj (p+1)) st2 fun ls3 st3=>qhy ops ls3 (K .normal st3))):Ok P (.region id ops true) st K:=by
 intro n old bs w0 a W ι hr
 refine wpIn_region_any hm ?_
 have hps:p<ops.size:=(Array.getElem?_eq_some_iff.1 hy).1
 have hlen:ops.toList.length=ops.size:=by simp
 obtain ⟨es1,h1,h2,h3⟩:=qe2 _ _ _ (qdA hT (fun _ _ h=>h) _ _ _ h)
 unfold qhy qbJ at h3
 obtain ⟨hs1,hcall⟩:=h3
 rw [List.nil_append] at hs1
 have l1:es1.length=p:=by have:=congrArg List.length h1;simp at this;omega
 let es:List Ent:=es1++(ops.toList.drop p).map (dum st)
 have heo:es.map (·.o)=ops.toList:=by
  show List.map (·.o) (es1++_)=_
  rw [List.map_append,h1,qAM,List.take_append_drop]
 have hel:es.map (·.l)=es1.map (·.l)++quj (ops.size-p):=by
  show List.map (·.l) (es1++_)=_
  rw [List.map_append,qAy,List.length_drop,hlen];rfl
 have tk: ∀i,i<=p->es.take i=es1.take i:=by
  intro i hi
  show List.take i (es1++_)=_
  rw [List.take_append_of_le_length (by omega)]
 have lt0: ∀(es:List Ent) i st,stL (fun j=>decide (j<i)) 0 es st=(es.take i).foldl qaJ st:=by
  intro es i st
  have:=qg2 es 0 i st
  simpa only [Nat.zero_add] using this
 have hes:es.length=ops.size:=by have:=congrArg List.length heo;simpa using this
 refine qih (mu:=mu) (old:=old) (bs:=bs) (w0:=w0) (A:=fun j=>decide (j<p)) (S:=fun _=>false) (es:=es) (st0:=st) heo ?_ ?_ (by rw [hel];exact hs1) ?_ ?_ ops.size _ a _ ι (by simp) ?_ ?_ ?_ ?_
 ·intro i e he hA
  have hi:i<p:=by simpa using hA
  rw [lt0,tk i (by omega)]
  refine h2 i e ?_
  have:es[i]? =es1[i]? :=by
   show (es1++_)[i]? =_
   rw [List.getElem?_append_left (by omega)]
  rw [<-this];exact he
 ·intro i e he
  rcases Nat.lt_or_ge i p with hi|hi
  ·have:es[i]? =es1[i]? :=by
    show (es1++_)[i]? =_
    rw [List.getElem?_append_left (by omega)]
   exact (h2 i e (by rw [<-this];exact he)).updl
  ·have:es[i]? =((ops.toList.drop p).map (dum st))[i-p]? :=by
    show (es1++_)[i]? =_
    rw [List.getElem?_append_right (by omega),l1]
   rw [this,List.getElem?_map] at he
   cases hh:(ops.toList.drop p)[i-p]? with
   |none=>rw [hh] at he;simp at he
   |some o=>rw [hh] at he;simp at he;subst he;rfl
 ·intro hall
  have:=hall p hps
  simp at this
 ·intro fuel listed a W ι i hin hA hLi hpre hinv hsz hcl hcl' hcnt hrel
  have his:i<listed.size:=by omega
  have hL': ∀j,(listed.setIfInBounds i true).getD j false=if j=i then true else listed.getD j false:=by
   intro j
   simp only [Array.getD_eq_getD_getElem?,Array.getElem?_setIfInBounds]
   by_cases e:i=j
   ·subst e;simp [his]
   ·rw [if_neg e,if_neg (fun e'=>e e'.symm)]
  have hip:i=p:=by
   have hge: ¬i<p:=by simpa using hA
   rcases Nat.lt_or_ge p i with hlt|hle
   ·exfalso
    have:=qce hcl' i p (qyL hmid hin hlt) (by show (listed.setIfInBounds i true).getD i false=true;rw [hL',if_pos rfl])
    simp only [hL'] at this
    rw [if_neg (by omega)] at this
    have:=hinv.1 p this
    simp at this
   ·omega
  subst hip
  have hex: ∀j,listed.getD j false=decide (j<i):=by
   intro j
   by_cases hj:j<i
   ·have:=qce hcl' i j (qyA hmid hin hj) (by show (listed.setIfInBounds i true).getD i false=true;rw [hL',if_pos rfl])
    simp only [hL'] at this
    rw [if_neg (by omega)] at this
    simp [this,hj]
   ·cases hh:listed.getD j false with
    |false=>simp [hj]
    |true=>have:=hinv.1 j hh;simp at this;omega
  have hex': ∀j,(listed.setIfInBounds i true).getD j false=decide (j<i+1):=by
   intro j
   rw [hL',hex]
   split
   ·rename_i e;subst e;simp
   ·apply decide_eq_decide.2;omega
  have hst1:stL (fun j=>listed.getD j false) 0 es st=es1.foldl qaJ st:=by
   rw [show (fun j=>listed.getD j false)=fun j=>decide (j<i) from funext hex,lt0,tk i (Nat.le_refl _),List.take_of_length_le (by omega)]
  rw [hst1] at hrel
  unfold wpOpIn
  simp only [hy]
  have hw:Region.wanted y (yielded ops a.tmps)=true:=by unfold Region.wanted;rw [hg]
  rw [hw,if_pos rfl]
  refine hcall y ⟨ts,hop⟩ rfl n old bs w0 a W ι _ _ hrel ?_
  intro st2 a2 W2 ι2 h4 hrel2
  obtain ⟨es3,k1,k2,k3⟩:=qe2 _ _ _ (qdA hT (fun _ _ h=>h) _ _ _ h4)
  obtain ⟨hs3,hK⟩:=k3
  let fs:List Ent:=(ops.toList.take (i+1)).map (dum st2)++es3
  have lf:((ops.toList.take (i+1)).map (dum st2)).length=i+1:=by simp;omega
  have hfo:fs.map (·.o)=ops.toList:=by
   show List.map (·.o) (_++es3)=_
   rw [List.map_append,k1,qAM,List.take_append_drop]
  have hfl:fs.map (·.l)=quj (i+1)++es3.map (·.l):=by
   show List.map (·.l) (_++es3)=_
   rw [List.map_append,qAy,List.length_take,hlen,Nat.min_eq_left (by omega)];rfl
  have hfs:fs.length=ops.size:=by have:=congrArg List.length hfo;simpa using this
  have ft: ∀k,(fs.take (i+1+k)).foldl qaJ st2=(es3.take k).foldl qaJ st2:=by
   intro k
   show (List.take (i+1+k) (_++es3)).foldl qaJ st2=_
   rw [List.take_append,lf,List.take_of_length_le (by omega),List.foldl_append,qji,show i+1+k-(i+1)=k from by omega]
  refine qih (mu:=mu) (old:=old) (bs:=bs) (w0:=w0) (A:=fun j=>decide (i<j)) (S:=fun j=>decide (j<i+1)) (es:=fs) (st0:=st2) hfo ?_ ?_ (by rw [hfl];exact hs3) ?_ ?_ fuel _ a2 _ ι2 (by simpa using hsz) hcl' ?_ ?_ ?_
  ·intro j e he hA
   have hj:i<j:=by simpa using hA
   rw [lt0]
   obtain ⟨k,rfl⟩: ∃k,j=i+1+k:=⟨j-(i+1),by omega⟩
   rw [ft]
   refine k2 k e ?_
   have:fs[i+1+k]? =es3[k]? :=by
    show (_++es3)[i+1+k]? =_
    rw [List.getElem?_append_right (by omega),lf,show i+1+k-(i+1)=k from by omega]
   rw [<-this];exact he
  ·intro j e he
   rcases Nat.lt_or_ge j (i+1) with hj|hj
   ·have:fs[j]? =((ops.toList.take (i+1)).map (dum st2))[j]? :=by
     show (_++es3)[j]? =_
     rw [List.getElem?_append_left (by omega)]
    rw [this,List.getElem?_map] at he
    cases hh:(ops.toList.take (i+1))[j]? with
    |none=>rw [hh] at he;simp at he
    |some o=>rw [hh] at he;simp at he;subst he;rfl
   ·have:fs[j]? =es3[j-(i+1)]? :=by
     show (_++es3)[j]? =_
     rw [List.getElem?_append_right (by omega),lf]
    exact (k2 _ e (by rw [<-this];exact he)).updl
  ·intro _ a3 W3 ι3 hrel3
   refine ⟨.normal,_,ι3,rfl,hK, ?_⟩
   rw [qiZ] at hrel3
   have:fs.foldl qaJ st2=es3.foldl qaJ st2:=by
    show (_++es3).foldl qaJ st2=_
    rw [List.foldl_append,qji]
   rw [<-this];exact hrel3
  ·intro fuel' listed' a' W' ι' j hjn hjA hjL _ hinv' _ _ _ _ _
   exfalso
   have:j<i+1:=by
    have: ¬i<j:=by simpa using hjA
    omega
   have:=hinv'.2 j (by simpa using this)
   rw [this] at hjL;simp at hjL
  ·constructor
   ·intro j hj
    rw [hex'] at hj
    exact .inl hj
   ·intro j hj
    rw [hex'];exact hj
  ·have hlt:(List.range ops.size).countP (fun j=> !(listed.setIfInBounds i true).getD j false)<(List.range ops.size).countP (fun j=> !listed.getD j false):=
    qhC (p:=fun j=> !(listed.setIfInBounds i true).getD j false) (q:=fun j=> !listed.getD j false) (fun j _ h=>by
     have h:(!(listed.setIfInBounds i true).getD j false)=true:=h
     rw [hL'] at h
     split at h
     ·simp at h
     ·exact h) (i:=i) (by simpa using hin) (by show (!listed.getD i false)=true;rw [hLi];rfl) (by show (!(listed.setIfInBounds i true).getD i false)=false;rw [hL',if_pos rfl];rfl)
   omega
  ·rw [show (fun j=>(listed.setIfInBounds i true).getD j false)=fun j=>decide (j<i+1) from funext hex',lt0]
   have:=ft 0
   rw [Nat.add_zero,List.take_zero] at this
   rw [this];exact hrel2
 ·intro j y hy hj
  simp [Array.getD_eq_getD_getElem?,Array.getElem?_replicate] at hj
  split at hj<;>simp at hj
 ·refine ⟨fun j hj=> ?_,fun j hj=>by simp at hj⟩
  simp [Array.getD_eq_getD_getElem?,Array.getElem?_replicate] at hj
  split at hj<;>simp at hj
 ·exact Nat.le_trans (List.countP_le_length) (by simp)
 ·have e0:stL (fun j=>(Array.replicate ops.size false).getD j false) 0 es st=st:=qgO 0 es st fun j _=>by simp [Array.getD_eq_getD_getElem?,Array.getElem?_replicate];split<;>rfl
  rw [e0];exact hr.drew
end
end Go.Nv
end
section
namespace Go.Nv
open Go.RowKit
def leB(x y:B):Prop:=match x,y with
 | .ghost cs,.ghost cs'=>leX cs cs'
 | .loop s p ps asg body cs,.loop s' p' ps' asg' body' cs'=>s=s'/\p=p'/\ps=ps'/\asg=asg'/\body=body'/\leX cs cs'
 |x,y=>qrG x y
def qBy:List B->List B->Prop
 | [], [] =>True
 |x::xs,y::ys=>leB x y/\qBy xs ys
 |_,_=>False
inductive LeB:B->B->Prop
 |rfl {x:B}:LeB x x
 |gh {cs cs':List S} (h:LeL cs cs'):LeB (.ghost cs) (.ghost cs')
 |lp {s:LoopState} {p:Option Code} {ps:Array Tmp} {asg body:Code} {cs cs':List S} (h:LeL cs cs'):LeB (.loop s p ps asg body cs) (.loop s p ps asg body cs')
theorem qzE{x y:B}(h:leB x y):LeB x y:=by
 unfold leB at h
 split at h
 ·exact .gh (qiE h)
 ·obtain ⟨rfl,rfl,rfl,rfl,rfl,h⟩:=h;exact .lp (qiE h)
 ·rw [qqr h];exact .rfl
theorem qpc: ∀{t t':List B},qBy t t'-> ∀k,LeB (tat t k) (tat t' k)
 | [], [],_,k=> .rfl
 |x::xs,y::ys,h,0=>qzE h.1
 |x::xs,y::ys,h,k+1=>by
  have:=qpc h.2 k
  simpa [tat] using this
 | [],_::_,h,_=>h.elim
 |_::_, [],h,_=>h.elim
theorem qvz{env env':List S}{t t':List B}(ht:qBy t t')(h:leX env env'):qc4 ⟨env,t⟩ ⟨env',t'⟩:=by
 intro old bs w0 a W ι hr
 have hle:=qpc ht
 have hver:qap (tat t')=qap (tat t):=by
  funext k;unfold qap
  have:=hle k
  generalize tat t k=x at this;generalize tat t' k=y at this
  cases this<;>rfl
 have hlive: ∀k,(tat t' k).live=(tat t k).live:=by
  intro k
  have:=hle k
  generalize tat t k=x at this;generalize tat t' k=y at this
  cases this<;>rfl
 have hloop: ∀k,(tat t' k).isLoop=(tat t k).isLoop:=by
  intro k
  have:=hle k
  generalize tat t k=x at this;generalize tat t' k=y at this
  cases this<;>rfl
 have hokT:okT bs (tat t') ι=okT bs (tat t) ι:=by funext b;unfold okT;simp only [hlive]
 refine ⟨ι,hr.defers,hr.oldIn,hr.fr, ?_, ?_,fun k=> ?hgh,fun i j hi hj=>hr.lap i j (by rw [<-hloop];exact hi) (by rw [<-hloop];exact hj),hr.rnd⟩
 case hgh=>
  have hg:=hr.gh k
  show qdX W old ι (qap (tat t')) (okT bs (tat t') ι) (w0.gs k) k (tat t' k)
  rw [hver,hokT]
  have:=hle k
  rw [show (⟨env,t⟩:St).t=t from rfl] at hg
  generalize qap (tat t)=vr at hg ⊢
  generalize okT bs (tat t) ι=ok at hg ⊢
  generalize tat t k=x at this hg;generalize tat t' k=y at this
  cases this with
  |rfl=>exact hg
  |gh h=>exact h.den hg
  |lp h=>obtain ⟨h1,h2,h3,h4,h5⟩:=hg;exact ⟨h1,h2,h3,h4,h.den h5⟩
 ·refine ⟨hr.tok.bsn,fun k=> ?_,fun i j b hi hj=>by
   simp only [hlive] at hi hj;exact hr.tok.apart i j b hi hj⟩
  have he:=hr.tok.ent k
  show qig W old ι (qap (tat t')) (okT bs (tat t') ι) k (tat t' k)
  rw [hver,hokT]
  have:=hle k
  rw [show (⟨env,t⟩:St).t=t from rfl] at he
  generalize qap (tat t)=vr at he ⊢
  generalize okT bs (tat t) ι=ok at he ⊢
  generalize tat t k=x at this he;generalize tat t' k=y at this
  cases this with
  |rfl=>exact he
  |gh h=>trivial
  |lp h=>exact he
 ·show qao W ι (qap (tat t')) (okT bs (tat t') ι) env' _
  rw [hver,hokT];exact (qiE h).den hr.env
theorem qbD{env env':List S}{t t':List B}(ht:qBy (qcq (qbr (qdj t) t)) t')(h:leX (qbr (qmj t 3) env) env'):qc4 ⟨env,t⟩ ⟨env',t'⟩:=(qmK env t).trans (qvz ht h)
end Go.Nv
end
section
namespace Go.Nv
open Go.RowKit
def goD(P:Program)(T:Tb)(mu:Tmp->Bool):Code->St->(Ex->St->Prop)->Prop
 | .skip,st,K=>K .normal st
 | .region id ops draw,st,K=>match draw with
  |true=>OkC P (.region id ops true) st K
  |false=>qlP P T mu ops.toList ops.toList st (qBp K)
 | .seq a b,st,K=>goD P T mu a st (qDD (goD P T mu b) K)
 | .cond c a b,st,K=>match c with
  | .tmp d=>match lk st.env d with
   | .d (.v (.bool z))=>cnd z (frc ⟨st1 st.env d tt',st.t⟩ fun st=>goD P T mu a st K) (frc ⟨st1 st.env d ff',st.t⟩ fun st=>goD P T mu b st K)
   |_=>False
  |c=>match evx st.env c with
   | .d (.v (.bool z))=>cnd z (goD P T mu a st K) (goD P T mu b st K)
   |_=>False
 | .block id body,st,K=>goD P T mu body st (qBe id K)
 | .exit id,st,K=>K (.exit id) st
 | .ret,st,K=>K .ret st
 |c,st,K=>OkC P c st K
section
variable {P:Program} {T:Tb} {mu:Tmp->Bool}
theorem qne(hm:P.follows .mixedOrders=true)(hT:qcG P T)(c:Code): ∀(st:St) (K:Ex->St->Prop),goD P T mu c st K->Ok P c st K:=by
 induction c with
 |skip=>intro st K h n old bs w0 a W ι hr;exact wpIn_skip ⟨.normal,st,ι,rfl,h,hr⟩
 |region id ops draw=>
  intro st K h
  cases draw with
  |false=>
   intro n old bs w0 a W ι hr
   refine wpIn_region ?_
   have:=qhn (n:=n) (old:=old) (bs:=bs) (w0:=w0) (Q:=qrH old bs w0 K) (K:=qBp K) hT (fun st' a' W' ι' hk hrel=>⟨.normal,st',ι',rfl,hk,hrel⟩)
    ops.toList 0 st a W ι (by simp) h hr
   rw [List.range_eq_range']
   simpa using this
  |true=>unfold goD OkC at h;exact h
 |seq x y ihx ihy=>
  intro st K h n old bs w0 a W ι hr
  refine wpIn_seq (wpIn_mono (ihx st _ h n old bs w0 a W ι hr) ?_)
  rintro e a' W' ⟨x',st',ι',rfl,hk,hrel⟩
  cases x' with
  |normal=>exact ihy st' K hk n old bs w0 a' W' ι' hrel
  |exit id=>exact ⟨.exit id,st',ι',rfl,hk,hrel⟩
  |ret=>exact ⟨.ret,st',ι',rfl,hk,hrel⟩
 |cond o x y ihx ihy=>
  intro st K h n old bs w0 a W ι hr
  have key: ∀z,ev st.env o= .d (.v (.bool z))->(z=true->goD P T mu x st K)->(z=false->goD P T mu y st K)->(Code.cond o x y).wpIn (FW w0.r) n P (qrH old bs w0 K) a W:=by
   intro z hz h1 h2
   have hsd:=hr.ev o
   rw [hz] at hsd
   refine wpIn_cond (qda hsd).1 ?_
   cases z with
   |true=>exact ihx st K (h1 rfl) n old bs w0 a W ι hr
   |false=>exact ihy st K (h2 rfl) n old bs w0 a W ι hr
  unfold goD at h
  split at h
  ·rename_i d
   split at h
   ·rename_i z hz
    have hz':ev st.env (.tmp d)= .d (.v (.bool z)):=by rw [<-qbe];exact hz
    refine key z hz' (fun e=> ?_) (fun e=> ?_)
    ·subst e
     have e1:st1 st.env d tt'=st.env:=qeE hz (by simp [tt',ff'])
     simp only [cnd,e1,qaE] at h
     exact h
    ·subst e
     have e1:st1 st.env d ff'=st.env:=qeE hz (by simp [tt',ff'])
     simp only [cnd,e1,qaE] at h
     exact h
   ·exact h.elim
  ·rw [qbe] at h
   split at h
   ·rename_i z hz
    refine key z hz (fun e=> ?_) (fun e=> ?_)
    ·subst e;exact h
    ·subst e;exact h
   ·exact h.elim
 |block id x ih=>
  intro st K h n old bs w0 a W ι hr
  refine wpIn_block (wpIn_mono (ih st _ h n old bs w0 a W ι hr) ?_)
  rintro e a' W' ⟨x',st',ι',rfl,hk,hrel⟩
  cases x' with
  |normal=>exact ⟨.normal,st',ι',rfl,hk,hrel⟩
  |exit i=>
   simp only [Ex.toExit,Exit.inBlock]
   simp only [qBe] at hk
   by_cases hi:i=id
   ·simp only [hi,Nat.beq_refl,if_true] at hk ⊢;exact ⟨.normal,st',ι',rfl,hk,hrel⟩
   ·simp only [if_neg hi,show Nat.beq i id=false by rw [Bool.eq_false_iff];intro h';exact hi (Nat.eq_of_beq_eq_true h')] at hk ⊢;exact ⟨.exit i,st',ι',rfl,hk,hrel⟩
  |ret=>exact ⟨.ret,st',ι',rfl,hk,hrel⟩
 |exit id=>intro st K h n old bs w0 a W ι hr;exact wpIn_exit ⟨.exit id,st,ι,rfl,h,hr⟩
 |ret=>intro st K h n old bs w0 a W ι hr;exact wpIn_ret ⟨.ret,st,ι,rfl,h,hr⟩
 |loop x ih=>intro st K h;unfold goD OkC at h;exact h
 |rangeFunc f ps as body _ _=>intro st K h;unfold goD OkC at h;exact h
 |scope body _=>intro st K h;unfold goD OkC at h;exact h
 |label l=>intro st K h;unfold goD OkC at h;exact h
 |goto l=>intro st K h;unfold goD OkC at h;exact h
 |refuse w=>intro st K h;unfold goD OkC at h;exact h
theorem qy0{c:Code}{st:St}{K:Ex->St->Prop}(mu:Tmp->Bool)(hm:P.follows .mixedOrders=true)(hT:qcG P T)(h:go P T mu c st K):OkC P c st K:=qcn (qkV hm hT c st K h)
theorem qd6{K:Ex->St->Prop}{st:St}{id:Nat}{ops:Array Oper}(p:Nat)(y:Oper)(mu:Tmp->Bool)(f:Operand)(args:List Operand)(hm:P.follows .mixedOrders=true)(hT:qcG P T)(hy:ops[p]? =some y)(hg:y.guard=none)
  (hop: ∃ts,y.op= .call {callee:= .value f,args:=args.toArray,argTypes:=ts}) (hmid:qxm ops p=true)
  (h:qdI P T mu ops.toList (ops.toList.take p) [] st fun ls1 st1=>qhy ops (ls1++quj (ops.size-p)) (qbJ P f args y.dst st1 fun st2=>
   qdI P T mu ops.toList (ops.toList.drop (p+1)) (quj (p+1)) st2 fun ls3 st3=>qhy ops ls3 (K .normal st3))):OkC P (.region id ops true) st K:=by
 obtain ⟨ts,hop⟩:=hop
 exact qcn (qnj hm hT p hy hg hop hmid h)
theorem qbX{body:Code}{st:St}{K:Ex->St->Prop}{α:Type}(mu:Tmp->Bool)(I:α->St)(inv:α->Prop)(μ:α->Nat)(x0:α)(hm:P.follows .mixedOrders=true)(hT:qcG P T)(h0:inv x0)(hw:qc4 st (I x0))
  (h: ∀x,inv x->goD P T mu body (I x) (lpX (fun st'=> ∃y,inv y/\μ y<μ x/\qc4 st' (I y)) K)):OkC P (.loop body) st K:=by
 exact qrB I inv μ x0 h0 hw fun x hx=>qne hm hT _ _ _ (h x hx)
theorem qkr{k:Nat}{C C':St->Prop}(h: ∀st,C st->C' st)(e:Ex)(st:St):qrF k C e st->qrF k C' e st:=by
 unfold qrF
 split
 ·split
  ·split
   ·rw [qaE,qaE];exact h _
   ·exact id
  ·exact id
 ·exact id
theorem qbI{st:St}{K:St->Prop}{f:Operand}{args:List Operand}{dst:Option Tmp}{k:Nat}{pend:Option Code}{ps:Array Tmp}{asg body:Code}{cs:List S}(mu:Tmp->Bool)(hm:P.follows .mixedOrders=true)(hT:qcG P T)
  (hcal:evx st.env f= .own k 0) (hk:qcT st.t k= .loop .ready pend ps asg body cs) (hlen:args.length=ps.size)
  (h:goD P T mu asg ⟨qrJ ps.toList (qbr (evx st.env) args) cs,qaY st.t (qck st.t) (.ghost st.env)⟩ (qrF k fun st2=>goD P T mu body st2 (qAQ k (qck st.t) dst K))):qbJ P f args dst st K:=
 qfB hcal hk hlen ((qne hm hT _ _ _ h).mono fun e st' h'=>qkr (fun st h=>qne hm hT _ _ _ h) e st' h')
theorem qbV{st:St}{K:Ex->St->Prop}{f:Operand}{ps:Array Tmp}{asg body:Code}{g:FuncId}{cap:List S}{fn:Func}{c:Code}(mu:Tmp->Bool)(hm:P.follows .mixedOrders=true)(hT:qcG P T)
  (hcal:qcx (evx st.env f)=some (g,cap)) (hf:P.funcs[g]? =some fn) (hb:fn.body=some c) (hn:(fn.name== "runtime.NumGoroutine")=false) (hres:fn.results= #[])
  (h:goD P T mu c ⟨.own (qck st.t) 0::qdW cap (qru (fn.ntmps-(1+qck cap))),qaY st.t (qck st.t) (.loop .ready none ps asg body st.env)⟩ (qAB (qck st.t) K)):OkC P (.rangeFunc f ps asg body) st K:=
 qcn (qnf hcal hf hb hn hres (qne hm hT _ _ _ h))
end
end Go.Nv
end
section
namespace Go.Nv
open Go.RowKit
section
variable {P:Program} {b:Frame} {a:Act} {k:List Item} {cs:List Frame} {w:World}
theorem qci{c:Code}:step P (lone (b.atR a (.code (.scope c)::k)) cs w)= .next (lone (b.atR a (.code c:: .inScope c::k)) cs w):=
 step_lone_go (by simp [stepG,stepG.exec,Frame.atR])
theorem qjM{c:Code}:step P (lone (b.atR a (.inScope c::k)) cs w)= .next (lone (b.atR a k) cs w):=
 step_lone_go (by simp [stepG,stepG.exec,Frame.atR])
end
theorem qor{F:Fence}{n:Nat}{P:Program}{Q:Exit->Act->World->Prop}{a:Act}{w:World}{c:Code}(h:c.wpIn F n P Q a w)(hg: ∀l a w,¬Q (.goto l) a w):(Code.scope c).wpIn F n P Q a w:=by
 intro b k cs hro hb hr
 have h0:(lone (b.atR a (.code (.scope c)::k)) cs w).fenced P F:=fenced_calm hb hr rfl
 obtain ⟨e,a₁,w₁,hq,harr⟩:=h b (.inScope c::k) cs hro hb hr
 cases e with
 |normal=>exact ⟨.normal,a₁,w₁,hq,.head h0 qci (StepsIn.trans harr (.one (fenced_calm hb hr rfl) qjM))⟩
 |exit id=>
  have hx:exitTo id (.inScope c::k)=exitTo id k:=by simp [exitTo]
  exact ⟨.exit id,a₁,w₁,hq,fun k' hk=> .head h0 qci (harr.1 k' (by rw [hx];exact hk)),
   fun hr' hk=>let ⟨k₁,h1,h2⟩:=harr.2 hr' (by rw [hx];exact hk);⟨k₁,h1,.head h0 qci h2⟩⟩
 |goto l=>exact absurd hq (hg l _ _)
 |ret=>exact ⟨_,a₁,w₁,hq,.of_steps (.one h0 qci) harr⟩
 |panic ch=>exact ⟨_,a₁,w₁,hq,.of_steps (.one h0 qci) harr⟩
 |outgrown=>exact ⟨_,a₁,w₁,hq,.of_steps (.one h0 qci) harr⟩
theorem qts{P:Program}{c:Code}{st:St}{K:Ex->St->Prop}(h:Ok P c st K):Ok P (.scope c) st K:=by
 intro n old bs w0 a W ι hr
 refine qor (h n old bs w0 a W ι hr) ?_
 rintro l a w ⟨x,st,ι,hx,_⟩
 cases x<;>cases hx
theorem qtj{P:Program}{l:Nat}{st:St}{K:Ex->St->Prop}(h:K .normal st):Ok P (.label l) st K:=by
 intro n old bs w0 a W ι hr
 exact wpIn_label ⟨.normal,st,ι,rfl,h,hr⟩
theorem qpS{P:Program}{T:Tb}(mu:Tmp->Bool)(hm:P.follows .mixedOrders=true)(hT:qcG P T){c:Code}{st:St}{K:Ex->St->Prop}(h:go P T mu c st K):OkC P (.scope c) st K:=qcn (qts (qkV hm hT c st K h))
theorem qqt{P:Program}{l:Nat}{st:St}{K:Ex->St->Prop}(h:K .normal st):OkC P (.label l) st K:=qcn (qtj h)
end Go.Nv
end
