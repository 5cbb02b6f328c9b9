import Derived.RangeFuncNested
import Derived.RangeFuncLeaves
import Derived.Laws.StructEq
import Derived.Test.YtdjbkccoofcnjaaGreatNvN2
set_option linter.all false
set_option maxRecDepth 100000
section
namespace Go.Nv
open Go.RowKit
structure Ent where
 o:Oper
 run:Bool
 val:S
 upd:Option (Nat×B)
 l:Look
def stepE(st:St)(e:Ent):St:=⟨putE st.env e.o.dst e.val,tupL st.t e.upd⟩
def stL(L:Nat→Bool):Nat→List Ent→St→St
 |_, [],st=>st
 |i,e::es,st=>stL L (i+1) es (if L i then stepE st e else st)
def Fact(P:Program)(m:Bool)(σ:Operand→S)(τ:Nat→B)(k0:Nat)(o:Oper)(val:S)(upd:Option (Nat×B))(l:Look):Prop:=
 (isCallV o.op=false∧ ∃e,opS P k0 m σ τ o.type o.op=some e∧e.side∧val=e.val∧upd=e.upd∧l=⟨tchOp σ o.op,e.upd.map (·.1)⟩)∨
 (∃f args ts g cap ds res,o.op= .call {callee:= .value f,args:=args,argTypes:=ts}∧σ f= .d (.f g cap)∧allD (args.toList.map σ)=some ds∧Fun P g (ds++cap) res∧val=resS res∧upd=none∧l=⟨[],none⟩)∨
 (∃f args ts g cap ds e size bytes res,o.op= .call {callee:= .value f,args:=args,argTypes:=ts}∧σ f= .d (.f g cap)∧allD (args.toList.map σ)=some ds∧FunO P g (ds++cap) e size res∧val= .own k0 0∧upd=some (k0,.row 0 e size bytes res)∧l=⟨[],some k0⟩)
def guardOk(ops:Array Oper)(σ:Operand→S)(o:Oper)(run:Bool):Prop:=
 match o.guard with
 |none=>run=true
 |some (j,w)=>(∃d b,(ops[j]?).bind (·.dst)=some d∧σ (.tmp d)= .d (.v (.bool b))∧run=(b==w))∨(∃d,(ops[j]?).bind (·.dst)=some d∧σ (.tmp d)= .tup [] ∧run=false)
def EntOkAt(P:Program)(mu:Tmp→Bool)(ops:Array Oper)(st:St)(e:Ent):Prop:=
 guardOk ops (ev st.env) e.o e.run∧(e.run=true→Fact P (muOf mu e.o.dst) (ev st.env) (tat st.t) st.t.length e.o e.val e.upd e.l)∧(e.run=false→e.val= .tup [] ∧e.upd=none∧e.l=⟨[],none⟩)
section
variable {P:Program} {mu:Tmp→Bool} {ops:Array Oper}
theorem vcStep_fact{o:Oper}{st:St}{K:Look→St→Prop}(h:vcStep P mu o st K): ∃val upd l,Fact P (muOf mu o.dst) (ev st.env) (tat st.t) st.t.length o val upd l∧K l ⟨putE st.env o.dst val,tupL st.t upd⟩:=by
 unfold vcStep at h
 split at h
 ·rename_i f args ts hop
  split at h
  ·rename_i g cap ds hf hds
   rcases h with ⟨res,h1,h2⟩|⟨e,size,bytes,res,h1,h2⟩
   ·exact ⟨_,none,_,.inr (.inl ⟨f,args,ts,g,cap,ds,res,hop,hf,hds,h1,rfl,rfl,rfl⟩),h2⟩
   ·exact ⟨_,some (st.t.length,.row 0 e size bytes res),_,.inr (.inr ⟨f,args,ts,g,cap,ds,e,size,bytes,res,hop,hf,hds,h1,rfl,rfl,rfl⟩),h2⟩
  ·exact h.elim
 ·rename_i hnc
  have hc:isCallV o.op=false:=by
   unfold isCallV
   split
   ·rename_i f a t hop;exact absurd hop (by intro h;exact hnc _ _ _ h)
   ·rfl
  split at h
  ·rename_i e he
   exact ⟨e.val,e.upd,_,.inl ⟨hc,e,he,h.1,rfl,rfl,rfl⟩,h.2⟩
  ·exact h.elim
theorem vcOps_trace{K:List Look→St→Prop}: ∀(l:List Oper) (acc:List Look) (st:St),vcOps P mu ops l acc st K→
  ∃es:List Ent,es.map (·.o)=l∧(∀i e,es[i]? =some e→EntOkAt P mu ops ((es.take i).foldl stepE st) e)∧K (acc++es.map (·.l)) (es.foldl stepE st):=by
 intro l
 induction l with
 |nil=>intro acc st h;exact ⟨[],rfl,by simp,by simp only [List.map_nil,List.append_nil];exact h⟩
 |cons o l ih=>
  intro acc st h
  have run: ∀(hg:guardOk ops (ev st.env) o true),(vcStep P mu o st fun l' st'=>vcOps P mu ops l (acc++ [l']) st' K)→
    ∃es:List Ent,es.map (·.o)=o::l∧(∀i e,es[i]? =some e→EntOkAt P mu ops ((es.take i).foldl stepE st) e)∧K (acc++es.map (·.l)) (es.foldl stepE st):=by
   intro hg hv
   obtain ⟨val,upd,lk,hf,hk⟩:=vcStep_fact hv
   obtain ⟨es,h1,h2,h3⟩:=ih _ _ hk
   refine ⟨⟨o,true,val,upd,lk⟩::es,by simp [h1], ?_,by simpa [stepE] using h3⟩
   intro i e he
   cases i with
   |zero=>simp at he;subst he;exact ⟨hg,fun _=>hf,fun h=>by simp at h⟩
   |succ i=>simp at he;simpa [stepE] using h2 i e he
  unfold vcOps at h
  split at h
  ·rename_i hg;exact run (by simp [guardOk,hg]) h
  ·rename_i j want hg
   split at h
   ·rename_i b hb
    cases hd:(ops[j]?).bind (·.dst) with
    |none=>rw [hd] at hb;simp [ev] at hb
    |some d=>
     rw [hd] at hb
     by_cases hbw:b=want
     ·exact run (by simp only [guardOk,hg];exact .inl ⟨d,b,hd,hb,by simp [hbw]⟩) (h.1 hbw)
     ·obtain ⟨es,h1,h2,h3⟩:=ih _ _ (h.2 hbw)
      refine ⟨⟨o,false,.tup [],none,⟨[],none⟩⟩::es,by simp [h1], ?_,by simpa [stepE,tupL] using h3⟩
      intro i e he
      cases i with
      |zero=>
       simp at he;subst he
       exact ⟨by simp only [guardOk,hg];exact .inl ⟨d,b,hd,hb,by simp [hbw]⟩,fun h=>by simp at h,fun _=>⟨rfl,rfl,rfl⟩⟩
      |succ i=>simp at he;simpa [stepE,tupL] using h2 i e he
   ·rename_i hb
    cases hd:(ops[j]?).bind (·.dst) with
    |none=>rw [hd] at hb;simp [ev] at hb
    |some d=>
     rw [hd] at hb
     obtain ⟨es,h1,h2,h3⟩:=ih _ _ h
     refine ⟨⟨o,false,.tup [],none,⟨[],none⟩⟩::es,by simp [h1], ?_,by simpa [stepE,tupL] using h3⟩
     intro i e he
     cases i with
     |zero=>
      simp at he;subst he
      exact ⟨by simp only [guardOk,hg];exact .inr ⟨d,hd,hb,trivial⟩,fun h=>by simp at h,fun _=>⟨rfl,rfl,rfl⟩⟩
     |succ i=>simp at he;simpa [stepE,tupL] using h2 i e he
   ·exact h.elim
theorem putE_length(env:List S)(dst:Option Tmp)(s:S):(putE env dst s).length=env.length:=by cases dst<;>simp [putE]
theorem putE_ne{env:List S}{dst:Option Tmp}{s:S}{d:Nat}(h:dst≠some d):(putE env dst s).getD d .top=env.getD d .top:=by
 cases dst with
 |none=>rfl
 |some k=>
  have:k≠d:=fun e=>h (by rw [e])
  simp [putE,List.getD_eq_getElem?_getD,List.getElem?_set_ne this]
theorem putE_same(env:List S)(s:S)(d:Nat):(putE env (some d) s).getD d .top=if d<env.length then s else .top:=by
 simp only [putE,List.getD_eq_getElem?_getD,List.getElem?_set]
 simp
 split<;>rfl
theorem stL_len(L:Nat→Bool): ∀(i:Nat) (es:List Ent) (st:St),(stL L i es st).env.length=st.env.length
 |_, [],_=>rfl
 |i,e::es,st=>by
  rw [stL,stL_len]
  split
  ·exact putE_length _ _ _
  ·rfl
theorem stL_env{L L':Nat→Bool}{d:Nat}: ∀(i:Nat) (es:List Ent) (st st':St),st.env.length=st'.env.length→st.env.getD d .top=st'.env.getD d .top→
  (∀j e,es[j]? =some e→e.o.dst=some d→L (i+j)=L' (i+j))→(stL L i es st).env.getD d .top=(stL L' i es st').env.getD d .top
 |_, [],_,_,_,h,_=>h
 |i,e::es,st,st',hl,h,hL=>by
  rw [stL,stL]
  have hrec: ∀j e',es[j]? =some e'→e'.o.dst=some d→L (i+1+j)=L' (i+1+j):=fun j e' he hd=>by
   have:=hL (j+1) e' (by simpa using he) hd
   rwa [show i+(j+1)=i+1+j from by omega] at this
  have key: ∀(b b':Bool) (st st':St),st.env.length=st'.env.length→st.env.getD d .top=st'.env.getD d .top→(e.o.dst=some d→b=b')→
    (if b=true then stepE st e else st).env.length=(if b'=true then stepE st' e else st').env.length∧(if b=true then stepE st e else st).env.getD d .top=(if b'=true then stepE st' e else st').env.getD d .top:=by
   intro b b' st st' hl h hb
   by_cases hd:e.o.dst=some d
   ·have:=hb hd;subst this
    cases b with
    |true=>simp only [if_true,stepE,hd,putE_length];exact ⟨hl,by rw [putE_same,putE_same,hl]⟩
    |false=>exact ⟨hl,h⟩
   ·cases b<;>cases b'<;>simp only [if_true,Bool.false_eq_true,if_false,stepE,putE_length,putE_ne hd] <;>exact ⟨hl,h⟩
  obtain ⟨k1,k2⟩:=key (L i) (L' i) st st' hl h (fun hd=>by simpa using hL 0 e rfl hd)
  exact stL_env (i+1) es _ _ k1 k2 hrec
theorem tat_step(st:St)(e:Ent)(k:Nat):tat (stepE st e).t k=tupd (tat st.t) e.upd k:=by simp only [stepE];rw [tat_tupL]
theorem stL_tab{L L':Nat→Bool}{k:Nat}: ∀(i:Nat) (es:List Ent) (st st':St),tat st.t k=tat st'.t k→
  (∀j e,es[j]? =some e→e.upd.map (·.1)=some k→L (i+j)=L' (i+j))→tat (stL L i es st).t k=tat (stL L' i es st').t k
 |_, [],_,_,h,_=>h
 |i,e::es,st,st',h,hL=>by
  rw [stL,stL]
  have hrec: ∀j e',es[j]? =some e'→e'.upd.map (·.1)=some k→L (i+1+j)=L' (i+1+j):=fun j e' he hd=>by
   have:=hL (j+1) e' (by simpa using he) hd
   rwa [show i+(j+1)=i+1+j from by omega] at this
  refine stL_tab (i+1) es _ _ ?_ hrec
  have ne:e.upd.map (·.1)≠some k→ ∀st:St,tat (stepE st e).t k=tat st.t k:=by
   intro hd st
   rw [tat_step]
   cases hu:e.upd with
   |none=>rfl
   |some x=>rw [hu] at hd;simp at hd;simp only [tupd];rw [at_ne _ _ (fun e=>hd e.symm)]
  by_cases hd:e.upd.map (·.1)=some k
  ·have:=hL 0 e rfl hd
   simp at this
   rw [this]
   cases L' i with
   |true=>
    simp only [if_true]
    rw [tat_step,tat_step]
    cases hu:e.upd with
    |none=>rw [hu] at hd;simp at hd
    |some x=>rw [hu] at hd;simp at hd;simp only [tupd, ←hd,at_same]
   |false=>exact h
  ·cases L i<;>cases L' i<;>simp only [if_true,Bool.false_eq_true,if_false,ne hd] <;>exact h
theorem stL_true: ∀(i:Nat) (es:List Ent) (st:St),stL (fun _=>true) i es st=es.foldl stepE st
 |_, [],_=>rfl
 |i,e::es,st=>by rw [stL,if_pos rfl,stL_true];rfl
theorem stL_none{L:Nat→Bool}: ∀(i:Nat) (es:List Ent) (st:St),(∀j,j<es.length→L (i+j)=false)→stL L i es st=st
 |_, [],_,_=>rfl
 |i,e::es,st,h=>by
  rw [stL,if_neg (by have:=h 0 (by simp);simpa using this)]
  exact stL_none (i+1) es st fun j hj=>by rw [show i+1+j=i+(j+1) from by omega];exact h (j+1) (by simpa using hj)
theorem stL_lt: ∀(es:List Ent) (k i:Nat) (st:St),stL (fun j=>decide (j<k+i)) k es st=(es.take i).foldl stepE st
 | [],k,i,st=>by simp [stL]
 |e::es,k,0,st=>by
  rw [stL_none];rfl
  intro j _;simp
 |e::es,k,i+1,st=>by
  rw [stL,if_pos (by simp)]
  have:=stL_lt es (k+1) i (stepE st e)
  rw [show k+1+i=k+(i+1) from by omega] at this
  rw [this];rfl
end
end Go.Nv
end
section
namespace Go.Nv
open Go.RowKit
section
variable {P:Program} {mu:Tmp→Bool} {ops:Array Oper} {old bs:Nat→Prop} {w0:Ctx} {r:Option Nat} {n:Nat}
theorem Fact.local{m:Bool}{σ σ':Operand→S}{τ τ':Nat→B}{k0 k1:Nat}{o:Oper}{val:S}{upd:Option (Nat×B)}{l:Look}(h:Fact P m σ τ k0 o val upd l)
  (hσ: ∀x∈o.op.operands.toList,σ x=σ' x) (hτ: ∀k∈l.tch,τ k=τ' k) (hk1:τ' k1= .gone) (hk:(∃b,upd=some (k0,b))→τ' k0= .gone): ∃k2 l',τ' k2= .gone∧Fact P m σ' τ' k2 o val upd l':=by
 have hcallσ: ∀{f:Operand} {args:Array Operand} {ts:Array TypeId},o.op= .call {callee:= .value f,args:=args,argTypes:=ts}→σ f=σ' f∧args.toList.map σ=args.toList.map σ':=by
  intro f args ts hop
  refine ⟨hσ f (by rw [hop];simp [Op.operands,Call.operands]),List.map_congr_left fun x hx=>hσ x (by rw [hop];simp [Op.operands,Call.operands];exact .inr (by simpa using hx))⟩
 rcases h with ⟨hc,e,he,hs,rfl,rfl,rfl⟩|⟨f,args,ts,g,cap,ds,res,hop,hf,hds,hfun,rfl,rfl,rfl⟩|⟨f,args,ts,g,cap,ds,e,size,bytes,res,hop,hf,hds,hfun,rfl,rfl,rfl⟩
 ·have h2:=opS_local (P:=P) (k0:=k0) (m:=m) (ty:=o.type) hσ hτ
  rw [h2] at he
  rcases opS_k0 he with ⟨b,hb⟩|hany
  ·exact ⟨k0,_,hk ⟨b,hb⟩,.inl ⟨hc,e,he,hs,rfl,rfl,rfl⟩⟩
  ·exact ⟨k1,_,hk1,.inl ⟨hc,e,hany k1,hs,rfl,rfl,rfl⟩⟩
 ·obtain ⟨h1,h2⟩:=hcallσ hop
  exact ⟨k1,_,hk1,.inr (.inl ⟨f,args,ts,g,cap,ds,res,hop,by rw [←h1];exact hf,by rw [←h2];exact hds,hfun,rfl,rfl,rfl⟩)⟩
 ·obtain ⟨h1,h2⟩:=hcallσ hop
  exact ⟨k0,_,hk ⟨_,rfl⟩,.inr (.inr ⟨f,args,ts,g,cap,ds,e,size,bytes,res,hop,by rw [←h1];exact hf,by rw [←h2];exact hds,hfun,rfl,rfl,rfl⟩)⟩
theorem Fact.sound{st:St}{a:Act}{W:World}{ι:Nat→Value}{m:Bool}{k0:Nat}{o:Oper}{val:S}{upd:Option (Nat×B)}{l:Look}(h:Rel old bs w0 ι st a W)(hv:Fact P m (ev st.env) (tat st.t) k0 o val upd l)(hk0:tat st.t k0= .gone)
  {K:Act→World→Prop} {Q:Exit→Act→World→Prop} (hK: ∀a' W' ι',Rel old bs w0 ι' ⟨putE st.env o.dst val,tupL st.t upd⟩ a' W'→K a' W'):o.wpIn (FW r) n P a W K Q:=by
 rcases hv with ⟨hc,e,he,hs,rfl,rfl,rfl⟩|⟨f,args,ts,g,cap,ds,res,hop,hf,hds,hfun,rfl,rfl,rfl⟩|⟨f,args,ts,g,cap,ds,e,size,bytes,res,hop,hf,hds,hfun,rfl,rfl,rfl⟩
 ·exact wpIn_of_opOk h (opS_sound h.tok h.oldIn hk0 h.ev (fun v=>rfl) he hs) (opS_nodefer he) fun a' W' ι' _ hrel=>hK _ _ _ hrel
 ·refine wpIn_call h hop hf hds (hc:=fun us hd=>hfun.2 W _ us hd) hfun.1 ?_
  rintro e W' ⟨v,rfl,hret,hbel⟩
  refine ⟨v,rfl, ?_⟩
  have hst:=h.tok.quiet h.oldIn (grownBy_of_below hbel)
  exact hK _ _ ι (h.put (t:=st.t) hst (hret.toS (fun b hb _=>hb.elim id (okT_ge h.tok h.oldIn))))
 ·refine wpIn_call h hop hf hds (hc:=fun us hd=>hfun.2 W _ us hd) hfun.1 ?_
  rintro e' W' ⟨v,vs,rfl,hown,hd,h1,hbel⟩
  refine ⟨v,rfl, ?_⟩
  have hbo:=blk_own _ _ hown
  have hst:StepTo old bs W ι (tat st.t) W' (at_ ι k0 v) (at_ (tat st.t) k0 (.row 0 e size bytes res)):=by
   refine h.tok.upd h.oldIn k0 _ _ (row:=none) (grownBy_of_below hbel) (by simp) (fun b _ hb=> .inl ?_) (by intro c hc;rw [hk0] at hc;simp [B.ver] at hc) fun hkeep hok hv=> ?_
   ·exact (hown.lt b (by rw [←hbo];exact hb)).1
   ·refine ⟨vs, ?_, ?_,h1,fun b hb ho=> ?_⟩
    ·rw [at_same]
     exact ⟨hown.1,hown.2.imp id fun ⟨g',cap',cur,q1,q2,q3⟩=>⟨g',cap',cur,q1,Nat.zero_le _,q3⟩⟩
    ·refine hd.keep (fun _ _ _=>rfl) fun b hb _=>⟨hb.1.elim (fun h=>h.1) (fun h2=>(okT_ge h.tok h.oldIn h2).1),fun j hj hbj=> ?_⟩
     by_cases ej:j=k0
     ·subst ej;rw [at_same] at hbj;exact hb.2 hbj
     ·rw [at_ne _ _ ej] at hj hbj
      rcases hb.1 with h2|h2
      ·exact h2.2 j hj hbj
      ·exact (okT_ge h.tok h.oldIn h2).2 j hj hbj
    ·rw [at_same] at hb
     have:=(hown.lt b (by rw [←hbo];exact hb)).1
     have:=h.oldIn b ho
     omega
  refine hK _ _ (at_ ι k0 v) (h.put (t:=tput st.t k0 _) (by rw [tat_tput];exact hst) ?_)
  rw [tat_tput]
  exact .own (seen_now (by simp [verT,at_same,B.ver])) fun _=>by rw [at_same]
theorem Rel.congr{st st':St}{a:Act}{W:World}{ι:Nat→Value}(h:Rel old bs w0 ι st a W)(h1:st.env=st'.env)(h2: ∀k,tat st.t k=tat st'.t k):Rel old bs w0 ι st' a W:=by
 have e:tat st.t=tat st'.t:=funext h2
 exact ⟨h.defers,h.oldIn,h.fr,by rw [←e];exact h.tok,by rw [←e, ←h1];exact h.env,by rw [←e];exact h.gh,by rw [←e];exact h.lap,h.rnd⟩
def Closed(ops:Array Oper)(L:Nat→Bool):Prop:= ∀j y,ops[j]? =some y→L j=true→ ∀e∈y.after.toList,Region.binds .any e=true→L e.on=true
theorem fold_bit(f:Edge→Nat): ∀(l:List Edge) (s i:Nat),(l.foldl (fun s e=>if Region.binds .any e then s|||f e else s) s).testBit i=true→
  s.testBit i=true∨ ∃e∈l,Region.binds .any e=true∧(f e).testBit i=true
 | [],s,i,h=> .inl h
 |e::l,s,i,h=>by
  rcases fold_bit f l _ i h with h|⟨e',h1,h2⟩
  ·dsimp only at h
   split at h
   ·rename_i hb
    rw [Nat.testBit_or,Bool.or_eq_true] at h
    rcases h with h|h
    ·exact .inl h
    ·exact .inr ⟨e,by simp,hb,h⟩
   ·exact .inl h
  ·exact .inr ⟨e',by simp [h1],h2⟩
theorem befM_closed{L:Nat→Bool}(hL:Closed ops L): ∀j i,((befM ops.toList).getD j 0).testBit i=true→L j=true→L i=true:=by
 have key: ∀(l:List Oper) (acc:List Nat),(∀j i,(acc.getD j 0).testBit i=true→L j=true→L i=true)→(∀k o,l[k]? =some o→ops[acc.length+k]? =some o)→
   ∀j i,((l.foldl (fun acc o=>acc++ [o.after.toList.foldl (fun s e=>if Region.binds .any e then s|||(2^e.on|||acc.getD e.on 0) else s) 0]) acc).getD j 0).testBit i=true→L j=true→L i=true:=by
  intro l
  induction l with
  |nil=>intro acc h _;exact h
  |cons o l ih=>
   intro acc h ho
   rw [List.foldl_cons]
   refine ih _ ?_ ?_
   ·intro j i hb hj
    rw [List.getD_eq_getElem?_getD,List.getElem?_append] at hb
    split at hb
    ·exact h j i (by rw [List.getD_eq_getElem?_getD];exact hb) hj
    ·rename_i hlt
     by_cases e:j=acc.length
     ·subst e
      simp only [Nat.sub_self,List.getElem?_cons_zero,Option.getD_some] at hb
      rcases fold_bit (fun e=>2^e.on|||acc.getD e.on 0) _ _ _ hb with h1|⟨e,h1,h2,h3⟩
      ·simp at h1
      ·have hon:=hL acc.length o (ho 0 o rfl) hj e h1 h2
       rw [Nat.testBit_or,Bool.or_eq_true] at h3
       rcases h3 with h3|h3
       ·rw [Nat.testBit_two_pow] at h3
        have:e.on=i:=by simpa using h3
        rw [←this];exact hon
       ·exact h _ _ h3 hon
     ·rw [List.getElem?_eq_none (by simp;omega)] at hb
      simp at hb
   ·intro k o' hk
    have:=ho (k+1) o' (by simpa using hk)
    rw [List.length_append]
    simpa [Nat.add_assoc,Nat.add_comm 1 k] using this
 exact key ops.toList [] (by simp) (fun k o hk=>by simpa using hk)
theorem stL_congr{L L':Nat→Bool}: ∀(i:Nat) (es:List Ent) (st:St),(∀j,j<es.length→L (i+j)=L' (i+j))→stL L i es st=stL L' i es st
 |_, [],_,_=>rfl
 |i,e::es,st,h=>by
  rw [stL,stL]
  have h0:=h 0 (by simp)
  simp at h0
  rw [h0]
  exact stL_congr (i+1) es _ fun j hj=>by rw [show i+1+j=i+(j+1) from by omega];exact h (j+1) (by simpa using hj)
theorem safe_edge{ls:List Look}(h:safeB ops ls=true){j:Nat}{y:Oper}(hy:ops[j]? =some y): ∀e∈y.after.toList,Region.binds .any e=true→e.on<j:=by
 unfold safeB at h
 have hj:j<ops.size:=(Array.getElem?_eq_some_iff.1 hy).1
 have:=List.all_eq_true.1 h j (by simpa using hj)
 simp only [hy,Bool.and_eq_true] at this
 intro e he hb
 have h2:=this.1
 rw [Array.all_eq_true'] at h2
 have:=h2 e (by simpa using he)
 simpa [hb] using this
theorem safe_pair{ls:List Look}(h:safeB ops ls=true){i j:Nat}{x y:Oper}(hij:i<j)(hx:ops[i]? =some x)(hy:ops[j]? =some y)(hm:meetB ops x y (ls.getD i ⟨[],none⟩) (ls.getD j ⟨[],none⟩)=true):
  ((befM ops.toList).getD j 0).testBit i=true:=by
 unfold safeB at h
 have hj:j<ops.size:=(Array.getElem?_eq_some_iff.1 hy).1
 have:=List.all_eq_true.1 h j (by simpa using hj)
 simp only [hy,Bool.and_eq_true] at this
 have:=List.all_eq_true.1 this.2 i (by simpa using hij)
 simp only [hx,hm] at this
 simpa using this
theorem EntOkAt.updl{st:St}{e:Ent}(h:EntOkAt P mu ops st e):e.l.upd=e.upd.map (·.1):=by
 cases hr:e.run with
 |true=>
  rcases h.2.1 hr with ⟨_,e',_,_,_,h1,h2⟩|⟨_,_,_,_,_,_,_,_,_,_,_,_,h1,h2⟩|⟨_,_,_,_,_,_,_,_,_,_,_,_,_,_,_,h1,h2⟩
  ·rw [h2,h1]
  ·rw [h2,h1];rfl
  ·rw [h2,h1];rfl
 |false=>obtain ⟨_,h1,h2⟩:=h.2.2 hr;rw [h2,h1];rfl
theorem countP_lt{p q:Nat→Bool}{l:List Nat}(h: ∀j,j∈l→p j=true→q j=true){i:Nat}(hi:i∈l)(hq:q i=true)(hp:p i=false):l.countP p<l.countP q:=by
 induction l with
 |nil=>simp at hi
 |cons x l ih=>
  rw [List.countP_cons,List.countP_cons]
  have hmono:l.countP p≤l.countP q:=List.countP_mono_left fun j hj hpj=>h j (List.mem_cons_of_mem _ hj) hpj
  rcases List.mem_cons.1 hi with rfl|hi
  ·simp [hq,hp];omega
  ·have:=ih (fun j hj=>h j (List.mem_cons_of_mem _ hj)) hi
   have hx:=h x (List.mem_cons_self ..)
   by_cases hpx:p x=true
   ·simp [hpx,hx hpx];exact this
   ·have hpx:p x=false:=by simpa using hpx
    simp only [hpx,Bool.false_eq_true,if_false]
    split<;>omega
theorem any_sound{es:List Ent}{st0:St}(hes:es.map (·.o)=ops.toList)(hok: ∀i e,es[i]? =some e→EntOkAt P mu ops (stL (fun j=>decide (j<i)) 0 es st0) e)(hsafe:safeB ops (es.map (·.l))=true)
  {Q:Exit→Act→World→Prop} (hQ: ∀a W ι,Rel old bs w0 ι (stL (fun _=>true) 0 es st0) a W→Q .normal a W):
  ∀(fuel:Nat) (listed:Array Bool) (a:Act) (W:World) (ι:Nat→Value),listed.size=ops.size→Closed ops (fun j=>listed.getD j false)→(List.range ops.size).countP (fun j=> !listed.getD j false)≤fuel→
   Rel old bs w0 ι (stL (fun j=>listed.getD j false) 0 es st0) a W→wpAnyIn (FW r) n P .any ops Q fuel listed a W:=by
 have hlen:es.length=ops.size:=by have:=congrArg List.length hes;simpa using this
 have hop: ∀(i:Nat) (e:Ent),es[i]? =some e→ops[i]? =some e.o:=by
  intro i e he
  have:(es.map (·.o))[i]? =ops.toList[i]? :=by rw [hes]
  rw [List.getElem?_map,he] at this
  simpa using this.symm
 --nothing is ready:all are listed
 have allIn: ∀(listed:Array Bool),listed.size=ops.size→Region.ready .any ops listed= [] → ∀j,j<ops.size→listed.getD j false=true:=by
  intro listed hsz hr j
  induction j using Nat.strongRecOn with
  |ind j ih=>
   intro hj
   by_cases hl:listed.getD j false=true
   ·exact hl
   ·exfalso
    have hmem:j∈Region.ready .any ops listed:=by
     unfold Region.ready
     refine List.mem_filter.2 ⟨by simpa using hj, ?_⟩
     have h1:listed.getD j true=false:=by
      have hjs:j<listed.size:=by omega
      simp only [Array.getD_eq_getD_getElem?,Array.getElem?_eq_getElem hjs,Option.getD_some] at hl ⊢
      simpa using hl
     rw [Array.getElem?_eq_getElem hj]
     simp only [h1,Option.map_some,Option.getD_some,Bool.not_false,Bool.true_and]
     rw [Array.all_eq_true']
     intro e he
     cases hb:Region.binds .any e with
     |false=>rfl
     |true=>
      have:=safe_edge hsafe (Array.getElem?_eq_getElem hj) e (by simpa using he) hb
      simp [ih e.on this (by omega)]
    rw [hr] at hmem;simp at hmem
 have done: ∀(listed:Array Bool) (a:Act) (W:World) (ι:Nat→Value),(∀j,j<ops.size→listed.getD j false=true)→Rel old bs w0 ι (stL (fun j=>listed.getD j false) 0 es st0) a W→Q .normal a W:=by
  intro listed a W ι hall h
  refine hQ a W ι ?_
  rw [←stL_congr 0 es st0 (L:=fun j=>listed.getD j false) (L':=fun _=>true) (fun j hj=>by simpa using hall j (by omega))]
  exact h
 intro fuel
 induction fuel with
 |zero=>
  intro listed a W ι hsz hcl hcnt h
  have hall: ∀j,j<ops.size→listed.getD j false=true:=by
   intro j hj
   have h0:(List.range ops.size).countP (fun j=> !listed.getD j false)=0:=by omega
   rw [List.countP_eq_zero] at h0
   have:=h0 j (by simpa using hj)
   simpa using this
  refine ⟨?_,done listed a W ι hall h⟩
  unfold Region.ready
  rw [List.filter_eq_nil_iff]
  intro j hj
  have hj:j<ops.size:=by simpa using hj
  have:=hall j hj
  have hjs:j<listed.size:=by omega
  simp only [Array.getD_eq_getD_getElem?,Array.getElem?_eq_getElem hjs,Option.getD_some] at this ⊢
  simp [this]
 |succ fuel ih=>
  intro listed a W ι hsz hcl hcnt h
  refine ⟨fun hr=>done listed a W ι (allIn listed hsz hr) h,fun i hi=> ?_⟩
  unfold Region.ready at hi
  obtain ⟨hi1,hi2⟩:=List.mem_filter.1 hi
  have hin:i<ops.size:=by simpa using hi1
  have his:i<listed.size:=by omega
  obtain ⟨e,he⟩: ∃e,es[i]? =some e:=⟨es[i],List.getElem?_eq_getElem (by omega)⟩
  have hoi:=hop i e he
  have hok_i:=hok i e he
  rw [hoi] at hi2
  simp only [Option.map_some,Option.getD_some,Bool.and_eq_true,Bool.not_eq_true'] at hi2
  obtain ⟨hi2,hi3⟩:=hi2
  rw [Array.all_eq_true'] at hi3
  have hLi:listed.getD i false=false:=by
   simp only [Array.getD_eq_getD_getElem?,Array.getElem?_eq_getElem his,Option.getD_some] at hi2 ⊢;exact hi2
  --the new list
  have hL': ∀j,(listed.setIfInBounds i true).getD j false=if j=i then true else listed.getD j false:=by
   intro j
   simp only [Array.getD_eq_getD_getElem?,Array.getElem?_setIfInBounds]
   by_cases e:i=j
   ·subst e;simp [his]
   ·rw [if_neg e,if_neg (fun e'=>e e'.symm)]
  have hcl':Closed ops (fun j=>(listed.setIfInBounds i true).getD j false):=by
   intro j y hy hj ed hed hb
   simp only [hL'] at hj ⊢
   by_cases ej:j=i
   ·subst ej
    have hyo:y=e.o:=by rw [hoi] at hy;simpa using hy.symm
    subst hyo
    have:=hi3 ed (by simpa using hed)
    simp only [hb,Bool.not_true,Bool.false_or] at this
    split
    ·rfl
    ·exact this
   ·rw [if_neg ej] at hj
    have:=hcl j y hy hj ed hed hb
    split
    ·rfl
    ·exact this
  --what meets it is in order
  have meets: ∀(j:Nat) (ej:Ent),es[j]? =some ej→(meetB ops ej.o e.o ej.l e.l=true∨meetB ops e.o ej.o e.l ej.l=true)→(j<i→meetB ops ej.o e.o ej.l e.l=true)→(i<j→meetB ops e.o ej.o e.l ej.l=true)→listed.getD j false=decide (j<i):=by
   intro j ej hej _ h1 h2
   have hlj:(es.map (·.l)).getD j ⟨[],none⟩=ej.l:=by simp [List.getD_eq_getElem?_getD,hej]
   have hli:(es.map (·.l)).getD i ⟨[],none⟩=e.l:=by simp [List.getD_eq_getElem?_getD,he]
   rcases Nat.lt_trichotomy j i with hlt|heq|hgt
   ·have hb:=safe_pair hsafe hlt (hop j ej hej) hoi (by rw [hlj,hli];exact h1 hlt)
    have:=befM_closed hcl' i j hb (by simp [hL'])
    simp only [hL'] at this
    rw [if_neg (by omega)] at this
    simp [this,hlt]
   ·subst heq;simp [hLi]
   ·have hb:=safe_pair hsafe hgt hoi (hop j ej hej) (by rw [hlj,hli];exact h2 hgt)
    cases hlj2:listed.getD j false with
    |false=>simp;omega
    |true=>
     have:=befM_closed hcl j i hb hlj2
     rw [hLi] at this;simp at this
  have look: ∀d,d∈e.o.looksAt ops→ ∀(j:Nat) (ej:Ent),es[j]? =some ej→ej.o.dst=some d→listed.getD j false=decide (j<i):=by
   intro d hd j ej hej hdst
   have m1:meetB ops ej.o e.o ej.l e.l=true:=by
    unfold meetB;simp [hdst,hd]
   have m2:meetB ops e.o ej.o e.l ej.l=true:=by
    unfold meetB;simp [hdst,hd]
   exact meets j ej hej (.inl m1) (fun _=>m1) (fun _=>m2)
  have same: ∀d,e.o.dst=some d→ ∀(j:Nat) (ej:Ent),es[j]? =some ej→ej.o.dst=some d→listed.getD j false=decide (j<i):=by
   intro d hd j ej hej hdst
   have m1:meetB ops ej.o e.o ej.l e.l=true:=by
    unfold meetB;simp [hdst,hd]
   have m2:meetB ops e.o ej.o e.l ej.l=true:=by
    unfold meetB;simp [hdst,hd]
   exact meets j ej hej (.inl m1) (fun _=>m1) (fun _=>m2)
  have tch: ∀k,(k∈e.l.tch∨e.l.upd=some k)→ ∀(j:Nat) (ej:Ent),es[j]? =some ej→ej.upd.map (·.1)=some k→listed.getD j false=decide (j<i):=by
   intro k hk j ej hej hu
   have hu':ej.l.upd=some k:=by rw [(hok j ej hej).updl];exact hu
   have m1:meetB ops ej.o e.o ej.l e.l=true:=by
    unfold meetB;rcases hk with hk|hk<;>simp [hu',hk]
   have m2:meetB ops e.o ej.o e.l ej.l=true:=by
    unfold meetB;rcases hk with hk|hk<;>simp [hu',hk]
   exact meets j ej hej (.inl m1) (fun _=>m1) (fun _=>m2)
  generalize hsL:stL (fun j=>listed.getD j false) 0 es st0=sL at h
  generalize hsi:stL (fun j=>decide (j<i)) 0 es st0=si at hok_i
  have hslot: ∀d,d∈e.o.looksAt ops→sL.env.getD d .top=si.env.getD d .top:=by
   intro d hd
   rw [←hsL, ←hsi]
   exact stL_env 0 es st0 st0 rfl rfl fun j ej hej hdst=>by simpa using look d hd j ej hej hdst
  have hσ: ∀x∈e.o.op.operands.toList,ev si.env x=ev sL.env x:=by
   intro x hx
   cases x with
   |tmp d=>
    refine (hslot d ?_).symm
    unfold Oper.looksAt
    exact List.mem_append_left _ (List.mem_filterMap.2 ⟨_,hx,rfl⟩)
   |_=>rfl
  have hτ: ∀k,(k∈e.l.tch∨e.l.upd=some k)→tat si.t k=tat sL.t k:=by
   intro k hk
   rw [←hsL, ←hsi]
   exact (stL_tab 0 es st0 st0 rfl fun j ej hej hu=>by simpa using tch k hk j ej hej hu).symm
  --what comes of it
  have after: ∀a' W' ι',Rel old bs w0 ι' (stepE sL e) a' W'→wpAnyIn (FW r) n P .any ops Q fuel (listed.setIfInBounds i true) a' W':=by
   intro a' W' ι' hrel
   refine ih _ _ _ ι' (by simpa using hsz) hcl' ?_ ?_
   ·have hlt:(List.range ops.size).countP (fun j=> !(listed.setIfInBounds i true).getD j false)<(List.range ops.size).countP (fun j=> !listed.getD j false):=
     countP_lt (p:=fun j=> !(listed.setIfInBounds i true).getD j false) (q:=fun j=> !listed.getD j false) (fun j _ h=>by
      have h:(!(listed.setIfInBounds i true).getD j false)=true:=h
      rw [hL'] at h
      split at h
      ·simp at h
      ·exact h) (i:=i) (by simpa using hin) (by show (!listed.getD i false)=true;rw [hLi];rfl) (by show (!(listed.setIfInBounds i true).getD i false)=false;rw [hL',if_pos rfl];rfl)
    omega
   ·have hstep: ∀st:St,(es.take (i+1)).foldl stepE st=stepE ((es.take i).foldl stepE st) e:=by
     intro st
     have hi':i<es.length:=by omega
     rw [List.take_succ_eq_append_getElem hi',List.foldl_append]
     have:es[i] =e:=(List.getElem?_eq_some_iff.1 he).2
     rw [this];rfl
    have hsi2:stL (fun j=>decide (j<i+1)) 0 es st0=stepE si e:=by
     have h1:=stL_lt es 0 (i+1) st0
     have h2:=stL_lt es 0 i st0
     simp only [Nat.zero_add] at h1 h2
     rw [h1,hstep, ←h2,hsi]
    have l1:(stepE sL e).env.length=st0.env.length:=by simp only [stepE,putE_length];rw [←hsL,stL_len]
    have l2:(stL (fun j=>(listed.setIfInBounds i true).getD j false) 0 es st0).env.length=st0.env.length:=stL_len _ _ _ _
    have l3:si.env.length=st0.env.length:=by rw [←hsi,stL_len]
    refine hrel.congr ?_ ?_
    ·apply List.ext_getElem?
     intro d
     have key:(stepE sL e).env.getD d .top=(stL (fun j=>(listed.setIfInBounds i true).getD j false) 0 es st0).env.getD d .top:=by
      by_cases hd:e.o.dst=some d
      ·have h1:(stL (fun j=>(listed.setIfInBounds i true).getD j false) 0 es st0).env.getD d .top=(stL (fun j=>decide (j<i+1)) 0 es st0).env.getD d .top:=
        stL_env 0 es st0 st0 rfl rfl fun j ej hej hdst=>by
         have:=same d hd j ej hej hdst
         simp only [Nat.zero_add,hL',this]
         by_cases e1:j=i
         ·subst e1;simp
         ·rw [if_neg e1];apply decide_eq_decide.2;omega
       rw [h1,hsi2]
       simp only [stepE,hd,putE_same]
       rw [l3, ←hsL,stL_len]
      ·have h1:(stL (fun j=>(listed.setIfInBounds i true).getD j false) 0 es st0).env.getD d .top=sL.env.getD d .top:=by
        rw [←hsL]
        exact stL_env 0 es st0 st0 rfl rfl fun j ej hej hdst=>by
         simp only [Nat.zero_add,hL']
         by_cases e1:j=i
         ·subst e1;rw [he] at hej;simp at hej;subst hej;exact absurd hdst hd
         ·rw [if_neg e1]
       rw [h1]
       simp only [stepE,putE_ne hd]
     rcases Nat.lt_or_ge d st0.env.length with hlt|hge
     ·rw [List.getElem?_eq_getElem (by rw [l1];exact hlt),List.getElem?_eq_getElem (by rw [l2];exact hlt)]
      rw [List.getD_eq_getElem?_getD,List.getD_eq_getElem?_getD,List.getElem?_eq_getElem (by rw [l1];exact hlt),List.getElem?_eq_getElem (by rw [l2];exact hlt)] at key
      simpa using key
     ·rw [List.getElem?_eq_none (by rw [l1];exact hge),List.getElem?_eq_none (by rw [l2];exact hge)]
    ·intro k
     by_cases hk:e.upd.map (·.1)=some k
     ·have h1:tat (stL (fun j=>(listed.setIfInBounds i true).getD j false) 0 es st0).t k=tat (stL (fun j=>decide (j<i+1)) 0 es st0).t k:=
       stL_tab 0 es st0 st0 rfl fun j ej hej hu=>by
        have:=tch k (.inr (by rw [hok_i.updl];exact hk)) j ej hej hu
        simp only [Nat.zero_add,hL',this]
        by_cases e1:j=i
        ·subst e1;simp
        ·rw [if_neg e1];apply decide_eq_decide.2;omega
      rw [h1,hsi2,tat_step,tat_step]
      cases hu:e.upd with
      |none=>rw [hu] at hk;simp at hk
      |some x=>rw [hu] at hk;simp at hk;simp only [tupd, ←hk,at_same]
     ·have h1:tat (stL (fun j=>(listed.setIfInBounds i true).getD j false) 0 es st0).t k=tat sL.t k:=by
       rw [←hsL]
       exact stL_tab 0 es st0 st0 rfl fun j ej hej hu=>by
        simp only [Nat.zero_add,hL']
        by_cases e1:j=i
        ·subst e1;rw [he] at hej;simp at hej;subst hej;exact absurd hu hk
        ·rw [if_neg e1]
      rw [h1,tat_step]
      cases hu:e.upd with
      |none=>rfl
      |some x=>rw [hu] at hk;simp at hk;simp only [tupd];rw [at_ne _ _ (fun e=>hk e.symm)]
  show wpOpIn (FW r) n P ops Q i (wpAnyIn (FW r) n P .any ops Q fuel (listed.setIfInBounds i true)) a W
  unfold wpOpIn
  simp only [hoi]
  --the guard
  have hwant:Region.wanted e.o (yielded ops a.tmps)=e.run:=by
   have hg:=hok_i.1
   unfold guardOk at hg
   unfold Region.wanted
   split at hg
   ·rename_i hgd;rw [hgd,hg]
   ·rename_i j w hgd
    rcases hg with ⟨d,b,hd,hv,hrun⟩|⟨d,hd,hv,hrun⟩
    case inr=>
     rw [hgd]
     simp only
     have hmem:d∈e.o.looksAt ops:=by
      unfold Oper.looksAt
      refine List.mem_append_right _ ?_
      rw [hgd]
      simp [hd]
     have hs:=hslot d hmem
     have hsd:=h.ev (.tmp d)
     have hv2:ev sL.env (.tmp d)= .tup [] :=by simp only [ev] at hv ⊢;rw [hs];exact hv
     rw [hv2] at hsd
     rw [yielded_und hd (und_sd hsd),hrun];rfl
    rw [hgd]
    simp only
    have hmem:d∈e.o.looksAt ops:=by
     unfold Oper.looksAt
     refine List.mem_append_right _ ?_
     rw [hgd]
     simp [hd]
    have hs:=hslot d hmem
    have hsd:=h.ev (.tmp d)
    have hv2:ev sL.env (.tmp d)= .d (.v (.bool b)):=by simp only [ev] at hv ⊢;rw [hs];exact hv
    rw [hv2] at hsd
    have hval:=(sd_v hsd).1
    have hy:yielded ops a.tmps j=some b:=by
     unfold yielded
     rw [hd]
     simp only [Option.bind_some]
     have:a.tmps.getD d undef= .bool b:=hval
     cases hq:a.tmps[d]? with
     |none=>rw [Array.getD_eq_getD_getElem?,hq] at this;simp [undef] at this
     |some q=>rw [Array.getD_eq_getD_getElem?,hq] at this;simp at this;rw [this]
    rw [hy,hrun];rfl
  rw [hwant]
  cases hrun:e.run with
  |true=>
   rw [if_pos rfl]
   have hf:=hok_i.2.1 hrun
   have hgone:(∃b,e.upd=some (si.t.length,b))→tat sL.t si.t.length= .gone:=by
    rintro ⟨b,hb⟩
    rw [←hτ _ (.inr (by rw [hok_i.updl,hb];rfl))]
    exact tat_new _
   obtain ⟨k2,l',hk2,hf2⟩:=hf.local hσ (fun k hk=>hτ k (.inl hk)) (tat_new sL.t) hgone
   exact hf2.sound h hk2 fun a' W' ι' hrel=>after a' W' ι' hrel
  |false=>
   rw [if_neg (by simp)]
   refine ⟨fun f _=>FW.fn r f, ?_⟩
   obtain ⟨h1,h2,_⟩:=hok_i.2.2 hrun
   refine after _ _ ι ?_
   have:=h.put (dst:=e.o.dst) (s:= .tup []) (v:=undef) (t:=sL.t) (StepTo.refl h.tok) (sd_und _ _ _ _)
   have e1:stepE sL e=⟨putE sL.env e.o.dst (.tup []),sL.t⟩:=by simp only [stepE,h1,h2,tupL]
   rw [e1];exact this
end
end Go.Nv
end
section
namespace Go.Nv
open Go.RowKit
def Ex.toExit:Ex→Exit
 | .normal=> .normal
 | .exit id=> .exit id
 | .ret=> .ret
section
variable {P:Program} {old bs:Nat→Prop} {w0:Ctx} {mu:Tmp→Bool} {r:Option Nat} {n:Nat}
def Post(old bs:Nat→Prop)(w0:Ctx)(K:Ex→St→Prop)(e:Exit)(a:Act)(W:World):Prop:=
 ∃x st ι,Ex.toExit x=e∧K x st∧Rel old bs w0 ι st a W
theorem least{p:Nat→Prop}(h: ∃m,p m): ∃m,p m∧ ∀k,p k→m≤k:=by
 obtain ⟨m,hm⟩:=h
 induction m using Nat.strongRecOn with
 |ind m ih=>
  by_cases hk: ∃k,k<m∧p k
  ·obtain ⟨k,h1,h2⟩:=hk;exact ih k h1 h2
  ·exact ⟨m,hm,fun k hk'=>Nat.le_of_not_lt fun hl=>hk ⟨k,hl,hk'⟩⟩
theorem Rel.drew{st:St}{a:Act}{W:World}{ι:Nat→Value}(h:Rel old bs w0 ι st a W):Rel old bs w0 ι st a {W with drawn:=W.drawn+1}:=by
 have hst:=h.tok.quiet (W':={W with drawn:=W.drawn+1}) h.oldIn ⟨rfl,rfl,rfl,Nat.le_refl _,fun _ _ _=>rfl⟩
 exact ⟨h.defers.step h.tok hst,h.oldIn.step hst.fr.size,h.fr.trans hst.fr,hst.tok,hst.sdenL h.env,h.ghStep hst,h.lapStep hst,h.rndStep hst⟩
theorem vc_sound(hm:P.follows .mixedOrders=true)(c:Code): ∀(st:St) (K:Ex→St→Prop),vc P mu c st K→ ∀(a:Act) (W:World) (ι:Nat→Value),Rel old bs w0 ι st a W→c.wpIn (FW r) n P (Post old bs w0 K) a W:=by
 induction c with
 |skip=>intro st K h a W ι hr;exact wpIn_skip ⟨.normal,st,ι,rfl,h,hr⟩
 |region id ops draw=>
  intro st K h a W ι hr
  cases draw with
  |false=>
   refine wpIn_region ?_
   have:=vcOps_sound (r:=r) (n:=n) (Q:=Post old bs w0 K) (Kp:=fun ls st'=>(false=true→Safe ops ls)∧K .normal st') (fun acc st' a' W' ι' hk hrel=>⟨.normal,st',ι',rfl,hk.2,hrel⟩)
    ops.toList 0 [] st a W ι (by simp) h hr
   rw [List.range_eq_range']
   simpa using this
  |true=>
   refine wpIn_region_any hm ?_
   obtain ⟨es,h1,h2,h3,h4⟩:=vcOps_trace ops.toList [] st h
   have hok: ∀i e,es[i]? =some e→EntOkAt P mu ops (stL (fun j=>decide (j<i)) 0 es st) e:=by
    intro i e he
    have:=stL_lt es 0 i st
    simp only [Nat.zero_add] at this
    rw [this];exact h2 i e he
   refine any_sound h1 hok (by have:=h3 rfl;rw [List.nil_append] at this;exact this) (fun a W ι hrel=>⟨.normal,_,ι,rfl,h4,by rw [←stL_true 0];exact hrel⟩) ops.size _ a _ ι (by simp) ?_ ?_ ?_
   ·intro j y hy hj
    simp [Array.getD_eq_getD_getElem?,Array.getElem?_replicate] at hj
    split at hj<;>simp at hj
   ·exact Nat.le_trans (List.countP_le_length) (by simp)
   ·have e0:stL (fun j=>(Array.replicate ops.size false).getD j false) 0 es st=st:=stL_none 0 es st fun j _=>by simp [Array.getD_eq_getD_getElem?,Array.getElem?_replicate];split<;>rfl
    rw [e0];exact hr.drew
 |seq x y ihx ihy=>
  intro st K h a W ι hr
  refine wpIn_seq (wpIn_mono (ihx st _ h a W ι hr) ?_)
  rintro e a' W' ⟨x',st',ι',rfl,hk,hrel⟩
  cases x' with
  |normal=>exact ihy st' K hk a' W' ι' hrel
  |exit id=>exact ⟨.exit id,st',ι',rfl,hk,hrel⟩
  |ret=>exact ⟨.ret,st',ι',rfl,hk,hrel⟩
 |cond o x y ihx ihy=>
  intro st K h a W ι hr
  unfold vc at h
  split at h
  ·rename_i z hz
   have hsd:=hr.ev o
   rw [hz] at hsd
   refine wpIn_cond (sd_v hsd).1 ?_
   cases z with
   |true=>exact ihx st K (h.1 rfl) a W ι hr
   |false=>exact ihy st K (h.2 rfl) a W ι hr
  ·exact h.elim
 |block id x ih=>
  intro st K h a W ι hr
  refine wpIn_block (wpIn_mono (ih st _ h a W ι hr) ?_)
  rintro e a' W' ⟨x',st',ι',rfl,hk,hrel⟩
  cases x' with
  |normal=>exact ⟨.normal,st',ι',rfl,hk,hrel⟩
  |exit i=>
   simp only [Ex.toExit,Exit.inBlock]
   split
   ·rename_i hi;simp only [hi,if_true] at hk;exact ⟨.normal,st',ι',rfl,hk,hrel⟩
   ·rename_i hi;simp only [hi,if_false] at hk;exact ⟨.exit i,st',ι',rfl,hk,hrel⟩
  |ret=>exact ⟨.ret,st',ι',rfl,hk,hrel⟩
 |loop x ih=>
  intro st K h a W ι hr
  obtain ⟨m,hm⟩:=h
  classical
  let L:Nat→Act→World→Prop:=fun m a W=> ∃st ι,loopN (vc P mu x) m st K∧Rel old bs w0 ι st a W
  let I:Act→World→Prop:=fun a W=> ∃m,L m a W
  let μ:Act→World→Nat:=fun a W=>if h: ∃m,L m a W then Classical.choose (least h) else 0
  have hμ: ∀a W m,L m a W→μ a W≤m:=by
   intro a W m hL
   have hex: ∃m,L m a W:=⟨m,hL⟩
   show (if h: ∃m,L m a W then Classical.choose (least h) else 0)≤m
   rw [dif_pos hex]
   exact (Classical.choose_spec (least hex)).2 m hL
  have hμ1: ∀a W,I a W→L (μ a W) a W:=by
   intro a W hI
   show L (if h: ∃m,L m a W then Classical.choose (least h) else 0) a W
   rw [dif_pos hI]
   exact (Classical.choose_spec (least hI)).1
  refine wpIn_loop I μ ⟨m,st,ι,hm,hr⟩ ?_
  intro a1 W1 hI
  obtain ⟨st1,ι1,hl,hr1⟩:=hμ1 a1 W1 hI
  generalize hq:μ a1 W1=q at hl
  cases q with
  |zero=>exact hl.elim
  |succ q=>
   refine wpIn_mono (ih st1 _ hl a1 W1 ι1 hr1) ?_
   rintro e a' W' ⟨x',st',ι',rfl,hk,hrel⟩
   cases x' with
   |normal=>
    have hL:L q a' W':=⟨st',ι',hk,hrel⟩
    exact ⟨⟨q,hL⟩,by have:=hμ a' W' q hL;omega⟩
   |exit id=>exact ⟨.exit id,st',ι',rfl,hk,hrel⟩
   |ret=>exact ⟨.ret,st',ι',rfl,hk,hrel⟩
 |exit id=>intro st K h a W ι hr;exact wpIn_exit ⟨.exit id,st,ι,rfl,h,hr⟩
 |ret=>intro st K h a W ι hr;exact wpIn_ret ⟨.ret,st,ι,rfl,h,hr⟩
 |rangeFunc f ps as body _ _=>intro st K h;exact h.elim
 |scope body _=>intro st K h;exact h.elim
 |label l=>intro st K h;exact h.elim
 |goto l=>intro st K h;exact h.elim
 |refuse w=>intro st K h;exact h.elim
end
end Go.Nv
end
section
namespace Go.Nv
open Go.RowKit
theorem ncell{W:World}{l i:Nat}{o:Obj}(ho:W.heap[l]? =some o)(hc:isC o=false):W.cell? ⟨l,i,none⟩=none:=by
 unfold World.cell?
 simp only [ho]
 cases o<;>simp_all [isC]
structure Turn (l:Nat) (W W':World):Prop where
 os:W'.os=W.os
 tape:W'.tape=W.tape
 output:W'.output=W.output
 size:W'.heap.size=W.heap.size
 was: ∃o,W.heap[l]? =some o∧isC o=false
 is: ∃o,W'.heap[l]? =some o∧isC o=false
 rest: ∀b,b≠l→W'.heap[b]? =W.heap[b]?
 lp: ∀rec:Loop,W.heap[l]? =some (Obj.loop rec)→ ∃rec',W'.heap[l]? =some (.loop rec')
theorem Turn.putObj{W:World}{l:Nat}{o o':Obj}(ho:W.heap[l]? =some o)(hc:isC o=false)(hc':isC o'=false)(hlp: ∀rec:Loop,o= .loop rec→ ∃rec':Loop,o'= .loop rec'):Turn l W (W.putObj l o'):=
 ⟨rfl,rfl,rfl,World.putObj_size,⟨o,ho,hc⟩,⟨o',World.putObj_heap_same (Array.getElem?_eq_some_iff.1 ho).1,hc'⟩,fun b hb=>World.putObj_heap_other hb,fun rec hr=>by rw [ho] at hr;cases hr;obtain ⟨r',rfl⟩:=hlp rec rfl;exact ⟨r',World.putObj_heap_same (Array.getElem?_eq_some_iff.1 ho).1⟩⟩
section
variable {W W':World} {l:Nat} {ι ι':Nat→Value} {vr:Nat→Option (Option Nat)} {ok:Nat→Prop} {old bs:Nat→Prop} {τ:Nat→B}
theorem ne_of_cells(hl: ∃o,W.heap[l]? =some o∧isC o=false){us:List Value}{b base:Nat}(hne:us≠ [])(hc: ∀(i:Nat) (u:Value),us[i]? =some u→W.cell? ⟨b,base+i,none⟩=some u):b≠l:=by
 rintro rfl
 obtain ⟨o,h1,h2⟩:=hl
 cases us with
 |nil=>exact hne rfl
 |cons u us=>have:=hc 0 u rfl;rw [ncell h1 h2] at this;cases this
theorem Den.noc(hl: ∃o,W.heap[l]? =some o∧isC o=false){d:D}{v:Value}(h:Den W ok d v):Den W (fun b=>ok b∧b≠l) d v:=by
 induction h with
 |v hx=>exact .v hx
 |a hl _ h1 ih=>exact .a hl ih h1
 |l0 hc hn=>exact .l0 hc hn
 |l hne hl' ho hc _ h0 h1 h2 ih=>exact .l hne hl' ⟨ho,ne_of_cells hl hne hc⟩ hc ih h0 h1 h2
 |p hne hl' ho hc _ h0 ih=>exact .p hne hl' ⟨ho,ne_of_cells hl hne hc⟩ hc ih h0
 |f hl _ ih=>exact .f hl ih
theorem SDen.noc(hl: ∃o,W.heap[l]? =some o∧isC o=false){s:S}{v:Value}(h:SDen W ι vr ok s v):SDen W ι vr (fun b=>ok b∧b≠l) s v:=by
 induction h with
 |d hx=>exact .d (hx.noc hl)
 |ptr h0 hp=>exact .ptr h0 hp
 |own h0 hp=>exact .own h0 hp
 |clo hl _ ih=>exact .clo hl ih
 |tup hl _ ih=>exact .tup hl ih
 |agg hl _ h1 ih=>exact .agg hl ih h1
 |top=>exact .top
theorem Den.turn(ht:Turn l W W'){d:D}{v:Value}(h:Den W ok d v):Den W' ok d v:=
 (h.noc ht.was).keep (fun b hb _=>ht.rest b hb.2) (fun b hb _=>hb.1)
theorem DenL.turn(ht:Turn l W W'){d:List D}{v:List Value}(h:DenL W ok d v):DenL W' ok d v:=⟨h.1,fun i c u hc hu=>(h.2 i c u hc hu).turn ht⟩
theorem SDen.turn(ht:Turn l W W'){s:S}{v:Value}(h:SDen W ι vr ok s v):SDen W' ι vr ok s v:=
 (h.noc ht.was).keep (fun b hb _=>ht.rest b hb.2) (fun b hb _=>hb.1) (VerKeep.refl _ _)
theorem SDenL.turn(ht:Turn l W W'){s:List S}{v:List Value}(h:SDenL W ι vr ok s v):SDenL W' ι vr ok s v:=⟨h.1,fun i c u hc hu=>(h.2 i c u hc hu).turn ht⟩
theorem TOk.turn(ht:Turn l W W')(h:TOk W old bs ι τ):TOk W' old bs ι τ:=by
 refine ⟨h.bsn,fun k=> ?_,h.apart⟩
 obtain ⟨o,ho,hc⟩:=ht.was
 have hne: ∀b,(τ k).live=true→blk (ι k)=some b→b≠l:=fun b hl hb e=>h.nonpriv ho hc k hl (by rw [hb,e])
 have he:=h.ent k
 revert he hne
 cases hk:τ k with
 |box t cs=>
  rintro hne ⟨b,us,h1,h2,h3,h4,h5⟩
  exact ⟨b,us,h1,h2,(ht.rest b (hne b rfl (by rw [h1];rfl))).trans h3,h4.turn ht,h5⟩
 |row ver e size bytes xs=>
  rintro hne ⟨us,h1,h2,h4,h3⟩
  refine ⟨us,⟨h1.1, ?_⟩,h2.turn ht,h4,h3⟩
  rcases h1.2 with hn|⟨g,cap,cur,hv',hb,hgg,rest⟩
  ·exact .inl hn
  ·exact .inr ⟨g,cap,cur,hv',hb,(ht.rest g (hne g rfl (by rw [hv'];rfl))).trans hgg,rest⟩
 |dead=>intro _ _;trivial
 |gone=>intro _ _;trivial
 |ghost=>intro _ _;trivial
 |loop=>intro _ h;exact h
theorem OldIn.turn(ht:Turn l W W')(h:OldIn old W):OldIn old W':=h.step (by rw [ht.size];exact Nat.le_refl _)
theorem Turn.fr(ht:Turn l W W')(hl: ¬old l):Fr old W W':=⟨ht.os,ht.tape,ht.output,by rw [ht.size];exact Nat.le_refl _,fun b hb=>ht.rest b fun e=>by subst e;exact hl hb,fun b rec hb=>if e:b=l then by subst e;exact ht.lp rec hb else ⟨rec,(ht.rest b e).trans hb⟩⟩
theorem GhOk.turn(ht:Turn l W W'){g:Gh}{k:Nat}{e:B}(h:GhOk W old ι vr ok g k e)(hne:e.isLoop=true→g.l≠l):GhOk W' old ι vr ok g k e:=by
 cases e with
 |ghost cs=>exact SDenL.turn ht h
 |loop s pend ps asg body cs=>
  obtain ⟨h1,h2,h0,h3,h4⟩:=h
  exact ⟨h1,h2,h0,(ht.rest _ (hne rfl)).trans h3,h4.turn ht⟩
 |_=>trivial
theorem Rel.leave{w0:Ctx}{st:St}{n:Nat}{P:Program}{fn:Func}{R:Ending→World→Prop}: ∀(Ds:List Nat) (W:World) (a:Act),Rel old bs w0 ι st a W→a.defers=Ds.map (fun D=>{target:= .collected D,args:= #[] })→
  (∀W2,Rel old bs w0 ι st {a with defers:= [] } W2→ ∃v,(results fn a.tmps).run P W2= .ok v W2∧R (.returned v) W2)→
  LeavesInM (FW none) n P fn a.tmps R (Ds.map (fun D=>{target:= .collected D,args:= #[] })) .returning W
 | [],W,a,h,hd,hR=>by
  refine hR W ⟨⟨[],rfl,List.nodup_nil,by simp⟩,h.oldIn,h.fr,h.tok,h.env,h.gh,h.lap,h.rnd⟩
 |D::Ds,W,a,h,hd,hR=>by
  obtain ⟨Ds',h1,h2,h3⟩:=h.defers
  have e:Ds'=D::Ds:=by
   rw [hd] at h1
   have:=congrArg (List.map (fun d:Deferred=>match d.target with| .collected r=>r|_=>0)) h1
   simpa [List.map_map,Function.comp_def] using this.symm
  subst e
  obtain ⟨hD1,hD2⟩:=h3 D (by simp)
  have ht:Turn D W (W.putObj D (.deferred none)):= .putObj hD2 rfl rfl (by simp)
  refine ⟨by simp,.inl ⟨D,_,rfl,run_takeDeferred hD2, ?_⟩⟩
  refine Rel.leave Ds (W.putObj D (.deferred none)) {a with defers:=Ds.map (fun D=>{target:= .collected D,args:= #[] })} ?_ rfl hR
  have hne: ∀k rec,W.heap[k]? =some (.loop rec)→k≠D:=fun k rec hk e=>by subst e;rw [hD2] at hk;cases hk
  refine ⟨⟨Ds,rfl,(List.nodup_cons.1 h2).2,fun E hE=> ?_⟩,h.oldIn.turn ht,h.fr.trans (ht.fr hD1),h.tok.turn ht,h.env.turn ht,fun k=> ?_,h.lap,fun l hl=> ?_⟩
  ·obtain ⟨e1,e2⟩:=h3 E (by simp [hE])
   exact ⟨e1,(ht.rest E fun e=>(List.nodup_cons.1 h2).1 (e▸hE)).trans e2⟩
  ·refine (h.gh k).turn ht fun hl=> ?_
   have:=h.gh k
   cases hk:tat st.t k with
   |loop s pend ps asg body cs=>rw [hk] at this;exact hne _ _ this.2.2.2.1
   |_=>rw [hk] at hl;simp [B.isLoop] at hl
  ·obtain ⟨e1,rec,e2⟩:=h.rnd l hl
   exact ⟨e1,rec,(ht.rest l (hne _ _ e2)).trans e2⟩
theorem Rel.out{w0:Ctx}{st:St}{n:Nat}{P:Program}{fn:Func}{R:Ending→World→Prop}{W:World}{a:Act}(h:Rel old bs w0 ι st a W)
  (hR: ∀W2,Rel old bs w0 ι st {a with defers:= [] } W2→ ∃v,(results fn a.tmps).run P W2= .ok v W2∧R (.returned v) W2):
  LeavesInM (FW none) n P fn a.tmps R a.defers .returning W:=by
 obtain ⟨Ds,h1,_⟩:=id h.defers
 have:=h.leave Ds W a h1 hR (n:=n)
 rwa [h1]
theorem rel_start{w:World}{ok:Nat→Prop}{args:List D}{us:List Value}{n:Nat}(hd:DenL w ok args us){gs:Nat→Gh}:
  Rel (fun b=>b<w.heap.size) (fun b=>ok b∨w.heap.size≤b) ⟨w,gs,none⟩ (fun _=>undef) ⟨args.map .d++List.replicate (n-args.length) .top, []⟩ {tmps:=us.toArray++Array.replicate (n-us.toArray.size) undef,defers:= [] } w:=by
 refine ⟨⟨[],rfl,List.nodup_nil,by simp⟩,fun b hb=>hb,Fr.refl _ _,⟨fun b hb=> .inr (Nat.le_of_not_lt hb),fun k=> ?_,fun j k b hj=> ?_⟩, ?_,fun k=> ?_,fun j k hj=> ?_,fun l hl=> ?_⟩
 ·show EntOk _ _ _ _ _ _ (tat [] k);simp [tat,EntOk]
 ·simp [tat,B.live] at hj
 ·have h1:SDenL w (fun _=>undef) (verT (tat [])) (okT (fun b=>ok b∨w.heap.size≤b) (tat []) (fun _=>undef)) (args.map .d) us:=
   SDenL.ofDen (hd.keep (fun _ _ _=>rfl) fun b hb _=>⟨.inl hb,fun k hk=>by simp [tat,B.live] at hk⟩)
  have h2:SDenL w (fun _=>undef) (verT (tat [])) (okT (fun b=>ok b∨w.heap.size≤b) (tat []) (fun _=>undef)) (List.replicate (n-args.length) .top) (List.replicate (n-us.length) undef):=by
   refine ⟨by simp [hd.1],fun i c u hc hu=> ?_⟩
   rw [List.getElem?_replicate] at hc
   split at hc
   ·simp at hc;subst hc;exact .top
   ·simp at hc
  simpa using h1.append h2
 ·show GhOk _ _ _ _ _ _ _ (tat [] k);simp [tat,GhOk]
 ·simp [tat,B.isLoop] at hj
 ·simp at hl
end
end Go.Nv
end
section
namespace Go.Nv
open Go.RowKit
def toDS(t:List B):Nat→S→Option D
 |_,.d x=>some x
 |_,.own k v=>match tat t k with
  | .row v' _ size _ xs=>if v=v'∧0<size then some (.l xs) else none
  |_=>none
 |0,_=>none
 |n+1,.agg cs=>(cs.mapM (toDS t n)).map .a
 |n+1,.clo g cs=>(cs.mapM (toDS t n)).map (.f g)
 |n+1,.ptr k ver off=>match tat t k with
  | .box _ cs=>if ver=0∧cs≠ [] then (cs.mapM (toDS t n)).map (.p off) else none
  |_=>none
 |_,_=>none
section
variable {P:Program} {old bs:Nat→Prop} {W:World} {ι:Nat→Value} {t:List B}
theorem mapM_den{f:S→Option D}(hf: ∀s d v,f s=some d→SDen W ι (verT (tat t)) (okT bs (tat t) ι) s v→Den W bs d v):
  ∀{cs:List S} {ds:List D} {us:List Value},cs.mapM f=some ds→SDenL W ι (verT (tat t)) (okT bs (tat t) ι) cs us→DenL W bs ds us:=by
 intro cs
 induction cs with
 |nil=>intro ds us h hd;simp at h;subst h;rw [hd.nil_inv];exact DenL.nil _ _
 |cons c cs ih=>
  intro ds us h hd
  obtain ⟨u,us',rfl,h1,h2⟩:=hd.cons_inv
  rw [List.mapM_cons] at h
  cases hc:f c with
  |none=>simp [hc] at h
  |some d=>
   cases hr:cs.mapM f with
   |none=>simp [hc,hr] at h
   |some ds'=>
    simp [hc,hr] at h
    subst h
    exact DenL.cons (hf c d u hc h1) (ih hr h2)
theorem toDS_den(hT:TOk W old bs ι (tat t)): ∀(n:Nat) (s:S) (d:D) (v:Value),toDS t n s=some d→SDen W ι (verT (tat t)) (okT bs (tat t) ι) s v→Den W bs d v:=by
 have hown: ∀(n:Nat) k ver d v,toDS t n (.own k ver)=some d→SDen W ι (verT (tat t)) (okT bs (tat t) ι) (.own k ver) v→Den W bs d v:=by
  intro n k ver d v h hs
  have h:(match tat t k with
   | .row v' _ size _ xs=>if ver=v'∧0<size then some (D.l xs) else none
   |_=>none)=some d:=by cases n<;>simpa [toDS] using h
  split at h
  ·rename_i v' e size bytes xs hk
   split at h
   ·rename_i hc
    obtain ⟨rfl,h0⟩:=hc
    simp at h;subst h
    have hv:=sd_own hs (verT_row hk)
    subst hv
    have he:=hT.ent k
    rw [hk] at he
    obtain ⟨us,ho,hd,h1,hnew⟩:=he
    rcases ho with ⟨hul,⟨hn,hz⟩|⟨g,cap,cur,hi,hb0,hh,hcap,hmax,hcs,htake⟩⟩
    ·have:xs= [] :=List.eq_nil_of_length_eq_zero hz
     subst this
     rw [hn];exact .l0 (Nat.zero_le _) (fun _=>rfl)
    ·rw [hi]
     by_cases hx:xs= []
     ·subst hx;exact .l0 hmax (by simp)
     ·have hne:us≠ [] :=by
       intro hn
       rw [hn] at hul
       have h3:0<xs.length*size:=Nat.mul_pos (List.length_pos_iff.2 hx) h0
       simp at hul;omega
      have hrow:=row_cells (e:=e) (size:=size) (n:=xs.length) (v:=ι k) (us:=us) ⟨hul,.inr ⟨g,cap,cur,hi,hb0,hh,hcap,hmax,hcs,htake⟩⟩ (b:=g) (by rw [hi];rfl)
      have hd':=hd.keep (W':=W) (ok':=bs) (fun _ _ _=>rfl) (fun b hb _=>hb.1)
      exact .l hne hd'.1 (hT.bsn _ (hnew g (by rw [hi];rfl))) hrow hd'.2 h1 hcap hmax
   ·simp at h
  ·simp at h
 intro n
 induction n with
 |zero=>
  intro s d v h hs
  cases s with
  |d x=>simp [toDS] at h;subst h;cases hs with|d h=>exact h.mono fun b hb=>hb.1
  |own k ver=>exact hown 0 k ver d v h hs
  |_=>simp [toDS] at h
 |succ n ih=>
  intro s d v h hs
  cases s with
  |d x=>simp [toDS] at h;subst h;cases hs with|d h=>exact h.mono fun b hb=>hb.1
  |own k ver=>exact hown (n+1) k ver d v h hs
  |agg cs=>
   simp only [toDS] at h
   obtain ⟨ds,h1,rfl⟩: ∃ds,cs.mapM (toDS t n)=some ds∧D.a ds=d:=by simpa using h
   obtain ⟨us,rfl,h2,h3⟩:=sd_agg hs
   have:=mapM_den (fun s d v=>ih s d v) h1 h2
   exact .a this.1 this.2 h3
  |clo g cs=>
   simp only [toDS] at h
   obtain ⟨ds,h1,rfl⟩: ∃ds,cs.mapM (toDS t n)=some ds∧D.f g ds=d:=by simpa using h
   cases hs with
   |clo hl hh=>
    have:=mapM_den (fun s d v=>ih s d v) h1 ⟨hl,hh⟩
    exact .f this.1 this.2
  |ptr k ver off=>
   simp only [toDS] at h
   split at h
   ·rename_i bt cs hk
    split at h
    ·rename_i hc
     obtain ⟨rfl,hne⟩:=hc
     obtain ⟨ds,h1,rfl⟩: ∃ds,cs.mapM (toDS t n)=some ds∧D.p off ds=d:=by simpa using h
     obtain ⟨b,hb,rfl⟩:=sd_ptr hs (by simp [verT,hk,B.ver])
     have he:=hT.ent k
     rw [hk] at he
     obtain ⟨b',us,hi,hnew,hh,hd,h1'⟩:=he
     rw [hi] at hb;simp [blk] at hb;subst hb
     have hd':=mapM_den (fun s d v=>ih s d v) h1 hd
     have:=Den.p (off:=off) (base:=0) (W:=W) (ok:=bs) (b:=b') (us:=us) (cs:=ds) (by
      intro hn;rw [hn] at hd;exact hne (List.eq_nil_of_length_eq_zero hd.1.symm)) hd'.1 (hT.bsn _ hnew) (by have:=box_cells hh;exact this) hd'.2 h1'
     simpa using this
    ·simp at h
   ·simp at h
  |tup cs=>simp [toDS] at h
  |top=>simp [toDS] at h
def resOf(P:Program)(st:St):ResultVar→Option D
 | .tmp k=>toDS st.t 4 (st.env.getD k .top)
 | .cell k ty=>if (P.underlying ty).isSome=true then match st.env.getD k .top with
  | .ptr b ver off=>match tat st.t b with
   | .box _ cs=>if ver=0 then (partS P ty cs off).bind (toDS st.t 4) else none
   |_=>none
  | .d (.p off cs)=>partD P ty cs off
  |_=>none
  else none
theorem lvar_data{t:TypeId}(ht:(P.underlying t).isSome=true){b base off:Nat}{cs:List D}{us:List Value}{ok:Nat→Prop}
  (hc:Cells W b base us) (hd:DenL W ok cs us) (h1: ∀(i:Nat) (u:Value),us[i]? =some u→u.oneCell'=true) {d:D} (hp:partD P t cs off=some d):
  ∃v,(loadVar t ⟨b,base+off,none⟩).run P W= .ok v W∧Den W ok d v:=by
 obtain ⟨dd,hdd⟩:=Option.isSome_iff_exists.1 ht
 rcases partD_some hp with ⟨ha,hl,rfl⟩|⟨ha,hg⟩
 ·have hn:((us.drop off).take (P.cellsOf t)).length=P.cellsOf t:=by simp [hd.1];omega
  refine ⟨_,run_loadVar t hdd b (base+off) _ (hc.part off (P.cellsOf t)) (by rw [if_pos ha,hn]), ?_⟩
  rw [if_pos ha]
  have:=(hd.drop off).take (P.cellsOf t)
  exact Den.a this.1 this.2 (sub_one h1 _ _)
 ·obtain ⟨u,hu,hdu⟩:=hd.at hg
  have hlt:off<us.length:=(List.getElem?_eq_some_iff.1 hu).1
  have e:(us.drop off).take 1= [u] :=by
   rw [List.drop_eq_getElem_cons hlt]
   simp [(List.getElem?_eq_some_iff.1 hu).2]
  refine ⟨_,run_loadVar t hdd b (base+off) _ (hc.part off 1) (by simp [ha,e]), ?_⟩
  simp [ha,e,hdu]
theorem lvar_slots{t:TypeId}(ht:(P.underlying t).isSome=true){b off:Nat}{cs:List S}{us:List Value}{vr:Nat→Option (Option Nat)}{ok:Nat→Prop}
  (hc:Cells W b 0 us) (hd:SDenL W ι vr ok cs us) (h1: ∀(i:Nat) (u:Value),us[i]? =some u→u.oneCell'=true) {s:S} (hp:partS P t cs off=some s):
  ∃v,(loadVar t ⟨b,off,none⟩).run P W= .ok v W∧SDen W ι vr ok s v:=by
 obtain ⟨dd,hdd⟩:=Option.isSome_iff_exists.1 ht
 have e0:(⟨b,off,none⟩:Addr)=⟨b,0+off,none⟩:=by simp
 rw [e0]
 rcases partS_some hp with ⟨ha,hl,rfl⟩|⟨ha,hg⟩
 ·have hn:((us.drop off).take (P.cellsOf t)).length=P.cellsOf t:=by simp [hd.1];omega
  refine ⟨_,run_loadVar t hdd b (0+off) _ (hc.part off (P.cellsOf t)) (by rw [if_pos ha,hn]), ?_⟩
  rw [if_pos ha]
  exact SDen.ofAgg ((hd.drop off).take _) (sub_one h1 _ _)
 ·obtain ⟨u,hu,hdu⟩:=hd.at hg
  have hlt:off<us.length:=(List.getElem?_eq_some_iff.1 hu).1
  have e:(us.drop off).take 1= [u] :=by
   rw [List.drop_eq_getElem_cons hlt]
   simp [(List.getElem?_eq_some_iff.1 hu).2]
  refine ⟨_,run_loadVar t hdd b (0+off) _ (hc.part off 1) (by simp [ha,e]), ?_⟩
  simp [ha,e,hdu]
def resSem(tmps:Array Value):ResultVar→Sem Value
 | .tmp t=>pure (tmps.getD t undef)
 | .cell a t=>do loadVar t (←asAddr (tmps.getD a undef))
theorem res_one{w0:Ctx}{st:St}{a:Act}(h:Rel old bs w0 ι st a W){x:ResultVar}{d:D}(hx:resOf P st x=some d):
  ∃v,(resSem a.tmps x).run P W= .ok v W∧Den W bs d v:=by
 cases x with
 |tmp k=>
  have hs:=h.ev (.tmp k)
  exact ⟨a.tmps.getD k undef,rfl,toDS_den h.tok 4 _ _ _ hx hs⟩
 |cell k ty=>
  have hs:=h.ev (.tmp k)
  simp only [resOf] at hx
  simp only [ev,Act.eval] at hs
  split at hx
  ·rename_i ht
   split at hx
   ·rename_i b ver off hb
    rw [hb] at hs
    split at hx
    ·rename_i bt cs hk
     split at hx
     ·rename_i hver
      subst hver
      obtain ⟨s,hp,hd⟩: ∃s,partS P ty cs off=some s∧toDS st.t 4 s=some d:=by simpa [Option.bind_eq_some_iff] using hx
      obtain ⟨b',hb',hv⟩:=sd_ptr hs (by simp [verT,hk,B.ver])
      have he:=h.tok.ent b
      rw [hk] at he
      obtain ⟨b2,us,hi,_,hh,hsd,h1⟩:=he
      rw [hi] at hb';simp [blk] at hb';subst hb'
      obtain ⟨v,hr,hsv⟩:=lvar_slots (P:=P) ht (box_cells hh) hsd h1 hp
      exact ⟨v,by simp [resSem,hv,asAddr,hr],toDS_den h.tok 4 _ _ _ hd hsv⟩
     ·simp at hx
    ·simp at hx
   ·rename_i off cs hb
    rw [hb] at hs
    obtain ⟨b,base,us,hv,_,hok,hc,hd,h1⟩:=sd_p hs
    obtain ⟨v,hr,hdv⟩:=lvar_data (P:=P) ht hc hd h1 hx
    exact ⟨v,by simp [resSem,hv,asAddr,hr],hdv.mono fun b hb=>hb.1⟩
   ·simp at hx
  ·simp at hx
theorem res_list{w0:Ctx}{st:St}{a:Act}(h:Rel old bs w0 ι st a W): ∀{xs:List ResultVar} {ds:List D},xs.mapM (resOf P st)=some ds→ ∃vs,(xs.mapM (resSem a.tmps)).run P W= .ok vs W∧DenL W bs ds vs
 | [],ds,hx=>by simp at hx;subst hx;exact ⟨[],by simp,DenL.nil _ _⟩
 |x::xs,ds,hx=>by
  rw [List.mapM_cons] at hx
  cases h1:resOf P st x with
  |none=>simp [h1] at hx
  |some d=>
   cases h2:xs.mapM (resOf P st) with
   |none=>simp [h1,h2] at hx
   |some ds'=>
    simp [h1,h2] at hx
    subst hx
    obtain ⟨v,hv,hd⟩:=res_one h h1
    obtain ⟨vs,hvs,hds⟩:=res_list h h2
    exact ⟨v::vs,by rw [List.mapM_cons];simp [hv,hvs],DenL.cons hd hds⟩
theorem run_results{w0:Ctx}{st:St}{a:Act}(h:Rel old bs w0 ι st a W){fn:Func}{ds:List D}(hx:fn.results.toList.mapM (resOf P st)=some ds):
  ∃v,(results fn a.tmps).run P W= .ok v W∧RetDen W bs ds v:=by
 obtain ⟨vs,hvs,hd⟩:=res_list h hx
 have e:results fn a.tmps=(do let vs←fn.results.mapM (resSem a.tmps);pure (if h:vs.size=1 then vs[0] else .tuple vs)):=rfl
 have e2:fn.results.mapM (resSem a.tmps)=List.toArray<$>fn.results.toList.mapM (resSem a.tmps):=by
  rw [Array.mapM_eq_mapM_toList]
 refine ⟨_,by rw [e,e2];simp [hvs];rfl, ?_⟩
 match ds,vs,hd with
 | [d], [v],hd=>exact hd.2 0 d v rfl rfl
 | [], [],hd=>exact ⟨[],by simp,hd⟩
 |d::d'::ds,v::v'::vs,hd=>exact ⟨v::v'::vs,by simp,hd⟩
 | [],v::vs,hd=>have:=hd.1;simp at this
 |d::ds, [],hd=>have:=hd.1;simp at this
 | [d],v::v'::vs,hd=>have:=hd.1;simp at this
 |d::d'::ds, [v],hd=>have:=hd.1;simp at this
end
def startSt(args:List D)(ntmps:Nat):St:=⟨args.map .d++List.replicate (ntmps-args.length) .top, []⟩
end Go.Nv
end
section
namespace Go.Nv
open Go.RowKit
section
variable {P:Program} {mu:Tmp→Bool} {ops:Array Oper} {rest:List Oper} {acc:List Look} {env env':List S} {t t':List B}
variable {st:St} {K:Ex→St→Prop} {a b c:Code}
end
end Go.Nv
end
section
namespace Go.Nv
open Go.RowKit
structure TI where
 cells:Nat
 bytes:Nat
 agg:Bool
 str:Bool
 boo:Bool
 ik:Option IntKind
 elem:Option TypeId
 fields:List (Nat×TypeId)
 zero:Option (List D)
 plcs:Option (List (Nat×Nat))
 eok:Bool
 eqk:Option (List Nat)
 arr:Option (Nat×TypeId)
structure TIok (P:Program) (t:TypeId) (i:TI):Prop where
 und:(P.underlying t).isSome=true
 cells:P.cellsOf t=i.cells
 bytes:P.bytesOf t=i.bytes
 agg:isAggT P t=i.agg
 str:i.str=true→P.underlying t=some .string
 boo:i.boo=true→P.underlying t=some .bool
 ik:i.ik=none∨intKindOf P t=i.ik
 elem:i.elem=none∨elemT P t=i.elem
 fields:i.fields= [] ∨ ∀f,fieldOff P t f=i.fields[f]?
 zero:i.zero=none∨zeroCells P t=i.zero
 plcs:i.plcs=none∨Nv.plcs P t=i.plcs
 eok:i.eok=true→ElemOk P t i.cells i.bytes
 eqk: ∀ks,i.eqk=some ks→StructEq P t ks
 arr:i.arr=none∨arrT P t=i.arr
abbrev Tb:=List (List (Option TI))
def lkO{α:Type}:List α→Nat→Option α
 | [],_=>none
 |x::_,0=>some x
 |_::xs,n+1=>lkO xs n
theorem lkO_eq{α:Type}(xs:List α)(n:Nat):lkO xs n=xs[n]? :=by
 induction xs generalizing n with
 |nil=>simp [lkO]
 |cons x xs ih=>cases n with
  |zero=>simp [lkO]
  |succ n=>simp [lkO,ih]
def tinfo(T:Tb)(t:TypeId):Option TI:=
 match lkO T (t/16) with
 |some l=>match lkO l (t%16) with|some i=>i|none=>none
 |none=>none
def TbOk(P:Program)(T:Tb):Prop:= ∀t i,tinfo T t=some i→TIok P t i
@[irreducible] noncomputable def bz(b:Bool):Bool:= @ite _ (b=true) (Classical.propDecidable (b=true)) true false
theorem bz_eq(b:Bool):bz b=b:=by unfold bz;cases b<;>simp
def bnot:Bool→Bool
 |true=>false
 |false=>true
theorem bnot_eq(b:Bool):bnot b= !b:=by cases b<;>rfl
def ikc:IntKind→Nat
 | .i8=>0| .i16=>1| .i32=>2| .i64=>3| .u8=>4| .u16=>5| .u32=>6| .u64=>7
theorem ikc_inj{a b:IntKind}(h:Nat.beq (ikc a) (ikc b)=true):a=b:=by
 cases a<;>cases b<;>first|rfl|(exact absurd h (by decide))
inductive Out where
 |fail
 |val (s:S) (u:Option (Nat×B))
 |side (b:Bool) (s:S) (u:Option (Nat×B))
 |idx (cells:Nat) (e:TypeId) (xs:List D) (n:Int)
 |rld (ty:TypeId) (agg:Bool) (cells size:Nat) (xs:List D) (off:Nat)
 |rst (cells:Nat) (k v:Nat) (e:TypeId) (size bytes:Nat) (xs:List D) (off:Nat) (d:D)
 |pick (z:Bool) (a b:S)
 |boo (b:Bool)
def mkI(k:IntKind)(n:Int):Out:=
 match k with
 | .i64=> .side (decide (-9223372036854775808≤n∧n≤9223372036854775807)) (.d (.v (.int .i64 n))) none
 | .i32=> .side (decide (-2147483648≤n∧n≤2147483647)) (.d (.v (.int .i32 n))) none
 | .i16=> .side (decide (-32768≤n∧n≤32767)) (.d (.v (.int .i16 n))) none
 | .i8=> .side (decide (-128≤n∧n≤127)) (.d (.v (.int .i8 n))) none
 | .u8=> .val (.d (.v (.int .u8 (n%256)))) none
 | .u16=> .val (.d (.v (.int .u16 (n%65536)))) none
 | .u32=> .val (.d (.v (.int .u32 (n%4294967296)))) none
 | .u64=> .val (.d (.v (.int .u64 (n%18446744073709551616)))) none
def sideO(b:Bool):Out→Out
 | .val s u=> .side b s u
 | .side b' s u=> .side (b&&b') s u
 |_=> .fail
def vI(k:IntKind)(n:Int):Out:= .val (.d (.v (.int k n))) none
def vB(b:Bool):Out:= .boo b
def binX(op:BinOp):Value→Value→Out
 | .int k a,.int k' b=>
  match op with
  | .shl=>sideO (decide (0≤b)) (mkI k (a*2^(min b.toNat k.bits)))
  | .shr=> .side (decide (0≤b)) (.d (.v (.int k (a.fdiv (2^(min b.toNat k.bits)))))) none
  |op=>match Nat.beq (ikc k) (ikc k') with
   |true=>match op with
    | .add=>mkI k (a+b)
    | .sub=>mkI k (a-b)
    | .mul=>mkI k (a*b)
    | .quo=>sideO (decide (b≠0)) (mkI k (a.tdiv b))
    | .rem=> .side (decide (b≠0)) (.d (.v (.int k (a.tmod b)))) none
    | .and=>vI k (k.wrap (BitVec.ofInt k.bits a&&&BitVec.ofInt k.bits b).toNat)
    | .or=>vI k (k.wrap (BitVec.ofInt k.bits a|||BitVec.ofInt k.bits b).toNat)
    | .xor=>vI k (k.wrap (BitVec.ofInt k.bits a^^^BitVec.ofInt k.bits b).toNat)
    | .andNot=>vI k (k.wrap (BitVec.ofInt k.bits a&&& ~~~BitVec.ofInt k.bits b).toNat)
    | .eql=>vB (a==b)
    | .neq=>vB (a !=b)
    | .lss=>vB (decide (a<b))
    | .leq=>vB (decide (a≤b))
    | .gtr=>vB (decide (a>b))
    | .geq=>vB (decide (a≥b))
    |_=> .fail
   |false=> .fail
 | .string a,.string b=>
  match op with
  | .add=> .side (decide (a.size+b.size≤9223372036854775807)) (.d (.v (.string (a++b)))) none
  | .eql=>vB (a==b)
  | .neq=>vB (!(a==b))
  | .lss=>vB (Op.bytesLess a.toList b.toList)
  | .gtr=>vB (!(Op.bytesLess a.toList b.toList||a==b))
  |_=> .fail
 |_,_=> .fail
@[irreducible] def wr64(n:Int):Int:=IntKind.i64.wrap n
def isTwo:BinOp→Operand→Bool
 | .mul,.const (.int .i64 (.ofNat n))=>Nat.beq n 2
 |_,_=>false
theorem isTwo_mul{op:BinOp}{x:Operand}(h:isTwo op x=true):op= .mul:=by
 unfold isTwo at h;split at h
 ·rfl
 ·cases h
def mul2:Value→Value→Out
 | .int .i64 a,.int .i64 b=> .val (.d (.v (.int .i64 (wr64 (a*b))))) none
 |_,_=> .fail
def len'{α:Type}:List α→Nat
 | [] =>0
 |_::xs=>len' xs+1
theorem len'_eq{α:Type}(xs:List α):len' xs=xs.length:=by induction xs<;>simp [len', *]
def isNil'{α:Type}:List α→Bool
 | [] =>true
 |_=>false
theorem isNil'_eq{α:Type}(xs:List α):isNil' xs=xs.isEmpty:=by cases xs<;>rfl
def eqNs:List Nat→List Nat→Bool
 | [], [] =>true
 |x::xs,y::ys=>match Nat.beq x y with|true=>eqNs xs ys|false=>false
 |_,_=>false
theorem eqNs_eq: ∀{xs ys:List Nat},eqNs xs ys=true→xs=ys
 | [], [],_=>rfl
 |x::xs,y::ys,h=>by
  unfold eqNs at h
  split at h
  ·rename_i h1;rw [Nat.eq_of_beq_eq_true h1,eqNs_eq h]
  ·simp at h
 | [],_::_,h=>by simp [eqNs] at h
 |_::_, [],h=>by simp [eqNs] at h
def uniB(size:Nat):List D→Bool
 | [] =>true
 |x::xs=>match Nat.beq (len' x.cells) size with|true=>uniB size xs|false=>false
theorem uniB_eq{size:Nat}: ∀{xs:List D},uniB size xs=true↔Uni size xs
 | [] =>by simp [uniB,Uni]
 |x::xs=>by
  unfold uniB
  constructor
  ·intro h
   split at h
   ·rename_i h1
    have h1:=Nat.eq_of_beq_eq_true h1
    have:=(uniB_eq (xs:=xs)).1 h
    intro y hy
    rcases List.mem_cons.1 hy with rfl|hy
    ·rw [←h1,len'_eq]
    ·exact this y hy
   ·simp at h
  ·intro h
   have h1:x.cells.length=size:=h x (by simp)
   rw [len'_eq,h1]
   have:Nat.beq size size=true:=Nat.beq_refl size
   rw [this]
   exact (uniB_eq (xs:=xs)).2 fun y hy=>h y (by simp [hy])
def partZ(agg:Bool)(cells:Nat)(cs:List D)(off:Nat):Option D:=
 match agg with
 |true=>match Nat.ble (off+cells) (len' cs) with|true=>some (.a ((cs.drop off).take cells))|false=>none
 |false=>lkO cs off
def partX(i:TI)(cs:List D)(off:Nat):Option D:=partZ i.agg i.cells cs off
def partSX(i:TI)(cs:List S)(off:Nat):Option S:=
 match i.agg with
 |true=>match Nat.ble (off+i.cells) (len' cs) with|true=>some (aggS ((cs.drop off).take i.cells))|false=>none
 |false=>lkO cs off
section
variable {P:Program} {t:TypeId} {i:TI}
theorem partZ_eq{agg:Bool}{n:Nat}(h1:isAggT P t=agg)(h2:P.cellsOf t=n)(cs:List D)(off:Nat):partZ agg n cs off=partD P t cs off:=by
 unfold partZ partD
 rw [h1,h2]
 cases agg with
 |true=>
  simp only [if_true,len'_eq]
  cases h:Nat.ble (off+n) cs.length with
  |true=>rw [if_pos (Nat.le_of_ble_eq_true h)]
  |false=>rw [if_neg (fun h'=>by rw [Nat.ble_eq_true_of_le h'] at h;simp at h)]
 |false=>simp [lkO_eq]
theorem partX_eq(hi:TIok P t i)(cs:List D)(off:Nat):partX i cs off=partD P t cs off:=partZ_eq hi.agg hi.cells cs off
theorem partSX_eq(hi:TIok P t i)(cs:List S)(off:Nat):partSX i cs off=partS P t cs off:=by
 unfold partSX partS
 rw [hi.agg,hi.cells]
 cases i.agg with
 |true=>
  simp only [if_true,len'_eq]
  cases h:Nat.ble (off+i.cells) cs.length with
  |true=>rw [if_pos (Nat.le_of_ble_eq_true h)]
  |false=>rw [if_neg (fun h'=>by rw [Nat.ble_eq_true_of_le h'] at h;simp at h)]
 |false=>simp [lkO_eq]
end
def verB(τ:Nat→B)(k ver:Nat):Bool:=
 match τ k with
 | .box .. =>Nat.beq ver 0
 | .row v .. =>Nat.beq ver v
 | .loop .. =>Nat.beq ver 0
 |_=>false
theorem verB_eq{τ:Nat→B}{k ver:Nat}:verB τ k ver=true↔verT τ k=some (some ver):=by
 unfold verB verT
 cases τ k with
 |box t cs=>rw [Nat.beq_eq];exact ⟨fun h=>by rw [h];rfl,fun h=>by simpa [B.ver] using h.symm⟩
 |row v e s b xs=>rw [Nat.beq_eq];exact ⟨fun h=>by rw [h];rfl,fun h=>by simpa [B.ver] using h.symm⟩
 |dead=>simp [B.ver]
 |ghost cs=>simp [B.ver]
 |loop=>rw [Nat.beq_eq];exact ⟨fun h=>by rw [h];rfl,fun h=>by simpa [B.ver] using h.symm⟩
 |gone=>simp [B.ver]
def oneX(τ:Nat→B):S→Bool
 | .d x=>match x with| .a _=>false|_=>true
 | .ptr k n _=>verB τ k n
 | .own k n=>verB τ k n
 | .clo _ _=>true
 |_=>false
theorem oneX_eq(τ:Nat→B)(s:S):oneX τ s=oneS (verT τ) s:=by
 cases s with
 |ptr k n o=>unfold oneX oneS;rw [Bool.eq_iff_iff,verB_eq,beq_iff_eq]
 |own k n=>unfold oneX oneS;rw [Bool.eq_iff_iff,verB_eq,beq_iff_eq]
 |_=>rfl
def allX(f:S→Bool):List S→Bool
 | [] =>true
 |s::ss=>match f s with|true=>allX f ss|false=>false
theorem allX_eq(f:S→Bool)(ss:List S):allX f ss=ss.all f:=by
 induction ss with
 |nil=>rfl
 |cons s ss ih=>simp only [allX,List.all_cons];cases f s<;>simp [ih]
def okX(τ:Nat→B):S→Bool
 | .d _=>true
 |s=>allX (oneX τ) s.cells
theorem okX_eq(τ:Nat→B)(s:S):okX τ s=okS (verT τ) s:=by
 have:oneX τ=oneS (verT τ):=funext (oneX_eq τ)
 cases s<;>simp [okX,okS,allX_eq,this]
def neD:D→Bool
 | .a [] =>false
 |_=>true
theorem neD_eq{d:D}(h:neD d=true):d.cells.isEmpty=false:=by
 unfold neD at h
 split at h
 ·simp at h
 ·rename_i h'
  cases d with
  |a cs=>cases cs with
   |nil=>exact absurd rfl h'
   |cons=>rfl
  |_=>rfl
def isNilSl:Operand→Bool
 | .const (.slice none 0 0)=>true
 |_=>false
def cb{α:Type}(j:TI)(f:Nat→Nat→α):α:=match j with|⟨c,b,_,_,_,_,_,_,_,_,_,_,_⟩=>f c b
theorem cb_eq{α:Type}(j:TI)(f:Nat→Nat→α):cb j f=f j.cells j.bytes:=by cases j;rfl
def zhd(agg:Bool)(zs:List D)(K:D→Out):Out:=match agg with
 |true=>K (.a zs)
 |false=>match zs with
  |z::_=>K z
  | [] =>K (.v undef)
theorem zhd_eq(agg:Bool)(zs:List D)(K:D→Out):zhd agg zs K=K (match agg with|true=> .a zs|false=>zs.headD (.v undef)):=by
 cases agg
 ·cases zs<;>rfl
 ·rfl
def ti(T:Tb)(t:TypeId)(f:TI→Out):Out:=match tinfo T t with|some i=>f i|none=> .fail
def ch(b:Bool)(o:Out):Out:=match b with|true=>o|false=> .fail
def opv(o:Option S):Out:=match o with|some s=> .val s none|none=> .fail
def opd(o:Option D):Out:=match o with|some d=> .val (.d d) none|none=> .fail
def eqNx(τ:Nat→B)(ps:List (Nat×S)):Bool:=match ps with
 | [] =>true
 |p::ps=>match okX τ p.2 with|true=>eqNx τ ps|false=>false
theorem eqNx_eq(τ:Nat→B)(ps:List (Nat×S)):eqNx τ ps=ps.all fun x=>okS (verT τ) x.2:=by
 induction ps with
 |nil=>rfl
 |cons p ps ih=>simp only [eqNx,List.all_cons,okX_eq];cases okS (verT τ) p.2<;>simp [ih]
def buildX(pl:List (Nat×Nat)):List (Nat×S)→List S→Option (List S)
 | [],cs=>some cs
 |(i,s)::ps,cs=>match lkO pl i with
  |some (o,n)=>match Nat.beq (len' s.cells) n with
   |true=>match Nat.ble (o+len' s.cells) (len' cs) with
    |true=>buildX pl ps (splice cs o s.cells)
    |false=>none
   |false=>none
  |none=>none
theorem buildX_eq(pl:List (Nat×Nat)): ∀(ps:List (Nat×S)) (cs:List S) (r:List S),buildX pl ps cs=some r→buildS pl ps cs=some r
 | [],cs,r,h=>h
 |(i,s)::ps,cs,r,h=>by
  unfold buildX at h
  unfold buildS
  rw [lkO_eq] at h
  split at h
  ·rename_i o n hl
   rw [hl]
   split at h
   ·rename_i h1
    split at h
    ·rename_i h2
     rw [len'_eq] at h1 h2
     rw [len'_eq] at h2
     simp only
     rw [if_pos ⟨Nat.eq_of_beq_eq_true h1,Nat.le_of_ble_eq_true h2⟩]
     exact buildX_eq pl ps _ r h
    ·simp at h
   ·simp at h
  ·simp at h
def lenX(ρ:Operand→S)(τ:Nat→B)(T:Tb)(x:Operand)(t:TypeId):Out:=
 ti T t fun i=>match ρ x with
 | .d (.l xs)=>match i.elem with|some _=> .val (.d (.v (.int .i64 xs.length))) none|none=> .fail
 | .d (.v (.string s))=>ch i.str (.val (.d (.v (.int .i64 s.size))) none)
 | .own k ver=>match τ k with
  | .row v _ _ _ xs=>ch (Nat.beq ver v) (match i.elem with|some _=> .val (.d (.v (.int .i64 xs.length))) none|none=> .fail)
  |_=> .fail
 |_=> .fail
def appX(ρ:Operand→S)(τ:Nat→B)(T:Tb)(s x:Operand)(t t':TypeId):Out:=
 ch (Nat.beq t t') (ti T t fun i=>match i.elem with
  |some e=>match ρ s,ρ x with
   | .own k ver,.d (.l ys)=>match τ k with
    | .row v e' size bytes xs=>ch (Nat.beq ver v) (ch (Nat.beq e e') (ti T e fun j=>ch j.eok (ch (Nat.beq size j.cells) (ch (Nat.beq bytes j.bytes) (ch (Nat.blt 0 size)
      (.side (uniB size xs&&(uniB size ys&&decide (xs.length+ys.length≤maxLen∧(xs.length+ys.length)*bytes≤140737488355328))) (.own k (v+1)) (some (k,.row (v+1) e size bytes (xs++ys)))))))))
    |_=> .fail
   |_,_=> .fail
  |none=> .fail)
def intX(ρ:Operand→S):Option Operand→Int→Option Int
 |none,n=>some n
 |some x,_=>match ρ x with| .d (.v (.int _ n))=>some n|_=>none
def allU8B:List D→Bool
 | [] =>true
 |x::xs=>match x with
  | .v (.int .u8 _)=>allU8B xs
  |_=>false
theorem allU8B_eq: ∀{xs:List D},allU8B xs=true↔AllU8 xs
 | [] =>by simp [allU8B,AllU8]
 |x::xs=>by
  unfold allU8B
  constructor
  ·intro h
   split at h
   ·rename_i n
    have:=(allU8B_eq (xs:=xs)).1 h
    intro y hy
    rcases List.mem_cons.1 hy with rfl|hy
    ·exact ⟨n,rfl⟩
    ·exact this y hy
   ·simp at h
  ·intro h
   obtain ⟨n,rfl⟩:=h x (by simp)
   exact (allU8B_eq (xs:=xs)).2 fun y hy=>h y (by simp [hy])
def noAB:List D→Bool
 | [] =>true
 |x::xs=>match x with
  | .a _=>false
  |_=>noAB xs
theorem noAB_eq: ∀{xs:List D},noAB xs=true→ ∀x∈xs,x.cells= [x]
 | [],_,x,hx=>by simp at hx
 |y::ys,h,x,hx=>by
  unfold noAB at h
  split at h
  ·simp at h
  ·rename_i hne
   rcases List.mem_cons.1 hx with rfl|hx
   ·cases x with
    |a cs=>exact absurd rfl (hne cs)
    |_=>rfl
   ·exact noAB_eq h x hx
def convX(T:Tb)(ρ:Operand→S)(τ:Nat→B)(src dst:TypeId)(x:Operand):Out:=
 match ρ x with
 | .d (.v (.int _ n))=>ti T src fun _=>ti T dst fun j=>match j.ik with
  |some k=>mkI k n
  |none=> .fail
 | .d (.l xs)=>ti T src fun i=>match i.elem with
  |some e=>ti T e fun j=>match j.ik with
   |some .u8=>ti T dst fun l=>ch l.str (.side (allU8B xs) (.d (.v (.string (bytS xs)))) none)
   |_=> .fail
  |none=> .fail
 | .own k ver=>match τ k with
  | .row v _ size _ xs=>ti T src fun i=>match i.elem with
   |some e=>ti T e fun j=>match j.ik with
    |some .u8=>ti T dst fun l=>ch l.str (ch (Nat.beq ver v) (ch (Nat.beq size 1) (.side (allU8B xs) (.d (.v (.string (bytS xs)))) none)))
    |_=> .fail
   |none=> .fail
  |_=> .fail
 |_=> .fail
def idxAX(T:Tb)(ρ:Operand→S)(τ:Nat→B)(len:Nat)(e:TypeId)(x i:Operand):Out:=
 ti T e fun je=>ch (Nat.blt 0 je.cells) (match ρ i with
  | .d (.v (.int _ n))=>match ρ x with
   | .ptr k ver off=>ch (verB τ k ver) (cb je fun c _=> .side (decide (0≤n∧n<len)) (.ptr k ver (off+n.toNat*c)) none)
   | .d (.p off cs)=>cb je fun c _=> .side (decide (0≤n∧n<len)) (.d (.p (off+n.toNat*c) cs)) none
   |_=> .fail
  |_=> .fail)
def slAX(T:Tb)(ρ:Operand→S)(τ:Nat→B)(len:Nat)(e:TypeId)(x:Operand)(lo hi:Option Operand):Out:=
 ti T e fun je=>ch (Nat.beq je.cells 1) (match ρ x with
  | .ptr k ver 0=>match τ k with
   | .box _ cs=>match allD cs with
    |some ds=>ch (Nat.beq ver 0) (ch (Nat.beq (len' ds) len) (ch (noAB ds) (ch (Nat.blt 0 len) (match intX ρ lo 0,intX ρ hi len with
     |some l,some h=> .side (decide (0≤l∧l≤h∧h≤len∧len≤maxLen)) (.d (.l (subL ds l.toNat h.toNat))) (some (k,.dead))
     |_,_=> .fail))))
    |none=> .fail
   |_=> .fail
  |_=> .fail)
def boxX(k0:Nat)(e:TypeId)(τ:Nat→B):Bool→S→Out
 |false,.d y=>ch (neD y) (.val (.d (.p 0 y.cells)) none)
 |_,s=>ch (bnot (isNil' s.cells)) (ch (okX τ s) (.val (.ptr k0 0 0) (some (k0,.box e s.cells))))
def opX(T:Tb)(k0:Nat)(mu:Bool)(ρ:Operand→S)(τ:Nat→B)(ty:TypeId):Op→Out
 | .move x=> .val (ρ x) none
 | .assign x=>match isNilSl x with
  |true=>ti T ty fun i=>match i.elem with
   |some e=>ti T e fun j=>cb j fun c b=> .val (.own k0 0) (some (k0,.row 0 e c b []))
   |none=> .fail
  |false=> .val (ρ x) none
 | .pick c a b=>match ρ c with| .d (.v (.bool z))=> .pick z (ρ a) (ρ b)|_=> .fail
 | .alloc e=>ti T e fun i=>match i.zero with
  |some (z::zs)=> .val (.ptr k0 0 0) (some (k0,.box e ((z::zs).map .d)))
  |_=> .fail
 | .box e x=>boxX k0 e τ mu (ρ x)
 | .build t ps=>ti T t fun i=>match i.plcs,i.zero with
  |some pl,some zs=>ch (eqNx τ (ps.toList.map fun x=>(x.1,ρ x.2))) (match buildX pl (ps.toList.map fun x=>(x.1,ρ x.2)) (zs.map .d) with
   |some cs=> .val (aggS cs) none
   |none=> .fail)
  |_,_=> .fail
 | .load ty' x=>ti T ty' fun i=>match ρ x with
  | .d (.p off cs)=>opd (partX i cs off)
  | .ptr k ver off=>match τ k with
   | .box _ cs=>ch (Nat.beq ver 0) (opv (partSX i cs off))
   | .row v e size _ xs=>ch (Nat.beq ver v) (.rld ty' i.agg i.cells size xs off)
   |_=> .fail
  |_=> .fail
 | .store ty' x y=>ti T ty' fun i=>match ρ x with
  | .ptr k ver off=>match τ k with
   | .box bt cs=>ch (Nat.beq ver 0) (ch (Nat.ble (off+len' (ρ y).cells) (len' cs)) (ch (Nat.beq (len' (ρ y).cells) i.cells) (ch (okX τ (ρ y))
     (.val .top (some (k,.box bt (splice cs off (ρ y).cells)))))))
   | .row v e size bytes xs=>match ρ y with
    | .d d=>ch (Nat.beq ver v) (.rst i.cells k v e size bytes xs off d)
    |_=> .fail
   |_=> .fail
  |_=> .fail
 | .fieldAddr s x f=>ti T s fun i=>match lkO i.fields f with
  |some (o,ft)=>ti T ft fun j=>ch (Nat.blt 0 j.cells) (match ρ x with
   | .d (.p off cs)=> .val (.d (.p (off+o) cs)) none
   | .ptr k ver off=>ch (verB τ k ver) (.val (.ptr k ver (off+o)) none)
   |_=> .fail)
  |none=> .fail
 | .field s x f=>ti T s fun i=>match lkO i.fields f with
  |some (o,ft)=>ti T ft fun j=>match ρ x with
   | .d (.a cs)=>opd (partX j cs o)
   | .agg cs=>opv (partSX j cs o)
   |_=> .fail
  |none=> .fail
 | .extract x i=>match ρ x with| .tup xs=>opv (lkO xs i)|_=> .fail
 | .binOp op xt x y _=>match ρ x with
  | .d (.v a)=>match ρ y with
   | .d (.v b)=>match a with
    | .bool p=>match b with
     | .bool q=>ti T xt fun i=>ch i.boo (match op with
      | .eql=>vB (p==q)
      | .neq=>vB (!(p==q))
      |_=> .fail)
     |_=> .fail
    |_=>match isTwo op x with
     |true=>mul2 a b
     |false=>binX op a b
   |_=> .fail
  | .d (.a as)=>match ρ y with
   | .d (.a bs)=>ti T xt fun i=>match i.eqk with
    |some ks=>ch (eqNs (as.map kdD) ks) (ch (eqNs (bs.map kdD) ks) (match op with
     | .eql=>vB (eqDs as bs)
     | .neq=>vB (!eqDs as bs)
     |_=> .fail))
    |none=> .fail
   |_=> .fail
  | .d (.l ds)=>match ρ y with
   | .d (.v (.slice none 0 0))=>ti T xt fun i=>match i.elem with
    |some _=>match op with
     | .eql=> .side (bnot (isNil' ds)) (.d (.v (.bool false))) none
     | .neq=> .side (bnot (isNil' ds)) (.d (.v (.bool true))) none
     |_=> .fail
    |none=> .fail
   |_=> .fail
  |_=> .fail
 | .unOp op _ x=>match ρ x with
  | .d (.v a)=>match op,a with
   | .not,.bool b=> .val (.d (.v (.bool (bnot b)))) none
   | .neg,.int k n=>mkI k (0-n)
   | .xor,.int k n=>vI k (k.wrap (BitVec.ofInt k.bits (if k.signed then-1 else k.max)^^^BitVec.ofInt k.bits n).toNat)
   |_,_=> .fail
  |_=> .fail
 | .nilCheck x=>match ρ x with
  | .d (.p off cs)=> .val (.d (.p off cs)) none
  | .ptr k ver off=>ch (verB τ k ver) (.val (.ptr k ver off) none)
  | .d (.f g cap)=> .val (.d (.f g cap)) none
  |_=> .fail
 | .index xt x i=>match ρ x,ρ i with
  | .d (.v (.string s)),.d (.v (.int _ n))=>ti T xt fun j=>ch j.str (.side (decide (0≤n∧n<s.size)) (.d (.v (.int .u8 (bt s n)))) none)
  | .d (.a cs),.d (.v (.int _ n))=>ti T xt fun j=>match j.arr with
   |some (len,e)=>ti T e fun je=>ch (Nat.blt 0 je.cells) (match partX je cs (n.toNat*je.cells) with
    |some d=> .side (decide (0≤n∧n<len)) (.d d) none
    |none=> .fail)
   |none=> .fail
  |_,_=> .fail
 | .indexAddr xt x i=>ti T xt fun j=>match j.elem with
  |some e=>ti T e fun je=>ch (Nat.blt 0 je.cells) (match ρ x,ρ i with
   | .d (.l xs),.d (.v (.int _ n))=>cb je fun c _=> .idx c e xs n
   | .own k ver,.d (.v (.int _ n))=>match τ k with
    | .row v e' size _ xs=>ch (Nat.beq ver v) (ch (Nat.beq size je.cells) (.side (decide (0≤n∧n<xs.length)&&uniB size xs) (.ptr k ver (n.toNat*size)) none))
    |_=> .fail
   |_,_=> .fail)
  |none=>match j.arr with
   |some (len,e)=>idxAX T ρ τ len e x i
   |none=> .fail
 | .makeFunc (.func g) first cap=>ch (isNil' first.toList) (.val (match allD (cap.toList.map ρ) with|some ds=> .d (.f g ds)|none=> .clo g (cap.toList.map ρ)) none)
 | .call {callee:= .builtin .len,args,argTypes}=>match args.toList,argTypes.toList with
  | [x], [t] =>lenX ρ τ T x t
  |_,_=> .fail
 | .call {callee:= .builtin .append,args,argTypes}=>match args.toList,argTypes.toList with
  | [s,x], [t,t'] =>appX ρ τ T s x t t'
  |_,_=> .fail
 | .call {callee:= .builtin .max,args,.. }=>match args.toList with
  | [x,y] =>match ρ x,ρ y with
   | .d (.v (.int k a)),.d (.v (.int k' b))=>ch (Nat.beq (ikc k) (ikc k')) (.val (.d (.v (.int k (if a<b then b else a)))) none)
   |_,_=> .fail
  |_=> .fail
 | .call {callee:= .builtin .min,args,.. }=>match args.toList with
  | [x,y] =>match ρ x,ρ y with
   | .d (.v (.int k a)),.d (.v (.int k' b))=>ch (Nat.beq (ikc k) (ikc k')) (.val (.d (.v (.int k (if b<a then b else a)))) none)
   |_,_=> .fail
  |_=> .fail
 | .buildSlice t n parts=>ti T t fun i=>match i.elem with
  |some e=>ti T e fun j=>ch j.eok (ch (Nat.blt 0 j.cells) (ch (eqNs (parts.toList.map (·.1)) (List.range n)) (ch (Nat.ble (n*j.cells) 16777216)
    (match allD ((parts.toList.map (·.2)).map ρ) with
    |some ds=>ch (uniB j.cells ds) (match mu with
     |true=>cb j fun c b=> .val (.own k0 0) (some (k0,.row 0 e c b ds))
     |false=> .val (.d (.l ds)) none)
    |none=> .fail))))
  |none=> .fail
 | .makeSlice t l c=>ti T t fun i=>match i.elem with
  |some e=>ti T e fun j=>ch j.eok (ch (Nat.blt 0 j.cells) (match j.zero with
   |some zs=>match ρ l,ρ c with
    | .d (.v (.int _ n)),.d (.v (.int _ m))=>ch (match j.agg with|true=>true|false=>Nat.beq (len' zs) 1)
      (cb j fun c b=>zhd j.agg zs fun z=> .side (decide (0≤n∧n≤m∧m≤maxLen∧(b:Int)*m≤281474976710656)) (.own k0 0)
       (some (k0,.row 0 e c b (List.replicate n.toNat z))))
    |_,_=> .fail
   |none=> .fail))
  |none=> .fail
 | .slice xt x lo hi none=>ti T xt fun i=>match ρ x with
  | .d (.v (.string s))=>ch i.str (match intX ρ lo 0,intX ρ hi s.size with
   |some l,some h=> .side (decide (0≤l∧l≤h∧h≤s.size)) (.d (.v (.string (s.extract l.toNat h.toNat)))) none
   |_,_=> .fail)
  | .d (.l xs)=>match i.elem with
   |some e=>ti T e fun j=>ch (Nat.blt 0 j.cells) (match intX ρ lo 0,intX ρ hi xs.length with
    |some l,some h=>cb j fun c _=> .side (decide (0≤l∧l≤h∧h≤xs.length)&&uniB c xs) (.d (.l (subL xs l.toNat h.toNat))) none
    |_,_=> .fail)
   |none=> .fail
  | .own k ver=>match i.elem with
   |some e=>ti T e fun j=>ch (Nat.blt 0 j.cells) (match τ k with
    | .row v _ size _ xs=>ch (Nat.beq ver v) (ch (Nat.beq size j.cells) (match intX ρ lo 0,intX ρ hi xs.length with
     |some l,some h=> .side (decide (0≤l∧l≤h∧h≤xs.length)&&uniB size xs) (.d (.l (subL xs l.toNat h.toNat))) (some (k,.dead))
     |_,_=> .fail))
    |_=> .fail)
   |none=> .fail
  | .ptr _ _ _=>match i.arr with
   |some (len,e)=>slAX T ρ τ len e x lo hi
   |none=> .fail
  |_=> .fail
 | .convert src dst x=>convX T ρ τ src dst x
 |_=> .fail
end Go.Nv
end
section
namespace Go.Nv
open Go.RowKit
def ikd:IntKind→Nat
 | .i8=>3| .i16=>4| .i32=>5| .i64=>6| .u8=>7| .u16=>8| .u32=>9| .u64=>10
mutual
def skinds(P:Program):Nat→TypeId→Option (List Nat)
 |0,_=>none
 |d+1,t=>match P.underlying t with
  |some .bool=>some [1]
  |some .string=>some [2]
  |some (.int k)=>some [ikd k]
  |some (.struct fs)=>match P.stoodInHeld t with
   |true=>none
   |false=>skF P d fs.toList 0
  |_=>none
def skF(P:Program):Nat→List Field→Nat→Option (List Nat)
 |_, [],_=>some []
 |0,_::_,_=>none
 |d+1,f::fs,off=>match decide (f.name≠ "_" ∧f.offset=off) with
  |true=>match skinds P d f.type with
   |some ks=>match decide (P.cellsOf f.type=ks.length) with
    |true=>match skF P d fs (off+ks.length) with
     |some rest=>some (ks++rest)
     |none=>none
    |false=>none
   |none=>none
  |false=>none
end
def valD(P:Program)(t:TypeId)(ds:List D):Value:=if isAggT P t then .agg (ds.map rawD).toArray else (ds.map rawD).getD 0 undef
theorem eqDs_append: ∀{a c b d:List D},a.length=c.length→eqDs (a++b) (c++d)=(eqDs a c&&eqDs b d)
 | [], [],b,d,_=>by simp [eqDs]
 |x::a,y::c,b,d,h=>by simp only [List.cons_append,eqDs];rw [eqDs_append (by simpa using h)];simp [Bool.and_assoc]
 | [],_::_,b,d,h=>by simp at h
 |_::_, [],b,d,h=>by simp at h
theorem kd_one{k:Nat}{ds:List D}(h:ds.map kdD= [k]): ∃x,ds= [x] ∧kdD x=k:=by
 cases ds with
 |nil=>simp at h
 |cons x ds=>simp at h;obtain ⟨h1,rfl⟩:=h;exact ⟨x,rfl,h1⟩
theorem kd_bool{x:D}(h:kdD x=1): ∃b,x= .v (.bool b):=by
 unfold kdD at h
 split at h<;>first|exact ⟨_,rfl⟩|simp at h
theorem kd_string{x:D}(h:kdD x=2): ∃b,x= .v (.string b):=by
 unfold kdD at h
 split at h<;>first|exact ⟨_,rfl⟩|simp at h
theorem kd_int{x:D}{k:IntKind}(h:kdD x=ikd k): ∃n,x= .v (.int k n):=by
 cases k<;>simp only [ikd] at h<;>(unfold kdD at h;split at h<;>first|exact ⟨_,rfl⟩|simp at h)
theorem ikd_ne(k:IntKind):0<ikd k:=by cases k<;>simp [ikd]
section
variable {P:Program}
theorem fieldsOf_eq{t:TypeId}{fs:Array Field}(h:P.underlying t=some (.struct fs)):P.fieldsOf t=fs:=by simp [Program.fieldsOf,h]
theorem eq_parts(n:Nat):(∀(d:Nat) (t:TypeId) (ks:List Nat),d≤n→skinds P d t=some ks→(0∉ks∧(P.underlying t).isSome=true∧(isAggT P t=false→ks.length=1))∧ ∀(D0:Nat) (ds es:List D) (w:World),n≤D0→ds.map kdD=ks→es.map kdD=ks→
   (Op.equalIn (D0+1) t (valD P t ds) (valD P t es)).run P w= .ok (eqDs ds es) w)∧
  (∀(d:Nat) (fs:List Field) (off:Nat) (ks:List Nat),d≤n→skF P d fs off=some ks→0∉ks∧ ∀(D0:Nat) (pre pre' ds es:List D) (w:World),n≤D0→pre.length=off→pre'.length=off→ds.map kdD=ks→es.map kdD=ks→
   (Op.eqFields (D0+1) ((pre++ds).map rawD).toArray ((pre'++es).map rawD).toArray fs).run P w= .ok (eqDs ds es) w):=by
 induction n with
 |zero=>
  refine ⟨fun d t ks hd h=> ?_,fun d fs off ks hd h=> ?_⟩
  ·have:d=0:=by omega
   subst this;simp [skinds] at h
  ·have:d=0:=by omega
   subst this
   cases fs with
   |nil=>
    simp [skF] at h;subst h
    refine ⟨by simp,fun D0 pre pre' ds es w _ _ _ h1 h2=> ?_⟩
    have:ds= [] :=by simpa using h1
    have h':es= [] :=by simpa using h2
    subst this;subst h'
    simp [Op.eqFields,eqDs]
   |cons f fs=>simp [skF] at h
 |succ n ih=>
  obtain ⟨ih1,ih2⟩:=ih
  refine ⟨fun d t ks hd h=> ?_,fun d fs off ks hd h=> ?_⟩
  ·cases d with
   |zero=>simp [skinds] at h
   |succ d=>
    simp only [skinds] at h
    split at h
    ·rename_i hu
     simp at h;subst h
     have ha:isAggT P t=false:=by simp [isAggT,hu]
     refine ⟨⟨by simp,by simp [hu],fun _=>rfl⟩,fun D0 ds es w _ h1 h2=> ?_⟩
     obtain ⟨x,rfl,hx⟩:=kd_one h1
     obtain ⟨y,rfl,hy⟩:=kd_one h2
     obtain ⟨a,rfl⟩:=kd_bool hx
     obtain ⟨b,rfl⟩:=kd_bool hy
     simp [valD,ha,rawD,eqDs,eqD,eqV,run_equalIn_bool' w _ t a b hu]
    ·rename_i hu
     simp at h;subst h
     have ha:isAggT P t=false:=by simp [isAggT,hu]
     refine ⟨⟨by simp,by simp [hu],fun _=>rfl⟩,fun D0 ds es w _ h1 h2=> ?_⟩
     obtain ⟨x,rfl,hx⟩:=kd_one h1
     obtain ⟨y,rfl,hy⟩:=kd_one h2
     obtain ⟨a,rfl⟩:=kd_string hx
     obtain ⟨b,rfl⟩:=kd_string hy
     simp [valD,ha,rawD,eqDs,eqD,eqV,run_equalIn_string w _ t a b hu,beq_toListBytes]
    ·rename_i k hu
     simp at h;subst h
     have ha:isAggT P t=false:=by simp [isAggT,hu]
     refine ⟨⟨by have:=ikd_ne k;simp;omega,by simp [hu],fun _=>rfl⟩,fun D0 ds es w _ h1 h2=> ?_⟩
     obtain ⟨x,rfl,hx⟩:=kd_one h1
     obtain ⟨y,rfl,hy⟩:=kd_one h2
     obtain ⟨a,rfl⟩:=kd_int hx
     obtain ⟨b,rfl⟩:=kd_int hy
     simp [valD,ha,rawD,eqDs,eqD,eqV,run_equalIn_int w _ t k k a b hu]
    ·rename_i fs hu
     split at h
     ·simp at h
     ·rename_i hs
      have ha:isAggT P t=true:=by simp [isAggT,hu]
      obtain ⟨h0,hk⟩:=ih2 d fs.toList 0 ks (by omega) h
      refine ⟨⟨h0,by simp [hu],fun h'=>by rw [ha] at h';simp at h'⟩,fun D0 ds es w hD h1 h2=> ?_⟩
      obtain ⟨D1,rfl⟩: ∃D1,D0=D1+1:=⟨D0-1,by omega⟩
      have:=hk D1 [] [] ds es w (by omega) rfl rfl h1 h2
      simp only [List.nil_append] at this
      simp only [valD,ha,if_true]
      rw [run_equalIn_struct w (D1+1) t _ _ (by rw [fieldsOf_eq hu];exact hu) hs,fieldsOf_eq hu]
      exact this
    ·simp at h
  ·cases fs with
   |nil=>
    have h:ks= [] :=by cases d<;>simpa [skF] using h.symm
    subst h
    refine ⟨by simp,fun D0 pre pre' ds es w _ _ _ h1 h2=> ?_⟩
    have:ds= [] :=by simpa using h1
    have h':es= [] :=by simpa using h2
    subst this;subst h'
    simp [Op.eqFields,eqDs]
   |cons f fs=>
    cases d with
    |zero=>simp [skF] at h
    |succ d=>
     simp only [skF] at h
     split at h
     ·rename_i hf
      simp only [decide_eq_true_eq] at hf
      split at h
      ·rename_i k1 hk1
       split at h
       ·rename_i hc
        simp only [decide_eq_true_eq] at hc
        split at h
        ·rename_i rest hrest
         simp at h;subst h
         obtain ⟨⟨z1,hu,hone⟩,e1⟩:=ih1 d f.type k1 (by omega) hk1
         obtain ⟨z2,e2⟩:=ih2 d fs _ rest (by omega) hrest
         refine ⟨by simp [z1,z2],fun D0 pre pre' ds es w hD hp hp' h1 h2=> ?_⟩
         obtain ⟨du,hdu⟩:=Option.isSome_iff_exists.1 hu
         obtain ⟨D1,rfl⟩: ∃D1,D0=D1+1:=⟨D0-1,by omega⟩
         --parts
         have spl: ∀(ds:List D),ds.map kdD=k1++rest→ ∃a b,ds=a++b∧a.map kdD=k1∧b.map kdD=rest:=by
          intro ds h
          refine ⟨ds.take k1.length,ds.drop k1.length,(List.take_append_drop _ _).symm, ?_, ?_⟩
          ·rw [List.map_take,h];simp
          ·rw [List.map_drop,h];simp
         obtain ⟨a1,b1,rfl,ha1,hb1⟩:=spl ds h1
         obtain ⟨a2,b2,rfl,ha2,hb2⟩:=spl es h2
         have la1:a1.length=k1.length:=by rw [←ha1];simp
         have la2:a2.length=k1.length:=by rw [←ha2];simp
         have prt: ∀(pre a b:List D),pre.length=off→a.length=k1.length→(part f.type ((pre++(a++b)).map rawD).toArray f.offset).run P w= .ok (valD P f.type a) w:=by
          intro pre a b hp la
          rw [hf.2]
          have hlen:off+(if isAggT P f.type then P.cellsOf f.type else 1)≤((pre++(a++b)).map rawD).length:=by
           split
           ·simp;omega
           ·rename_i hna
            have:=hone (by simpa using hna)
            simp;omega
          rw [run_part hdu _ _ hlen]
          unfold valD
          split
          ·congr 2
           rw [hc, ←la, ←hp]
           simp [List.map_append,List.map_drop]
          ·rename_i hna
           have h1:=hone (by simpa using hna)
           have hl1:a.length=1:=by omega
           match a,hl1 with
           | [x],_=>simp [←hp,List.getD_eq_getElem?_getD]
         have p1:=prt pre a1 b1 hp la1
         have p2:=prt pre' a2 b2 hp' la2
         simp only [Op.eqFields,Sem.run_ite,if_pos hf.1,Sem.run_bind,p1,p2,Result.andThen_ok]
         rw [e1 (D1+1) a1 a2 w (by omega) ha1 ha2]
         rw [eqDs_append (by omega)]
         simp only [Result.andThen_ok]
         cases hq:eqDs a1 a2 with
         |false=>simp
         |true=>
          have:=e2 (D1+1) (pre++a1) (pre'++a2) b1 b2 w (by omega) (by simp;omega) (by simp;omega) hb1 hb2
          simpa [List.append_assoc] using this
        ·simp at h
       ·simp at h
      ·simp at h
     ·simp at h
theorem structEq_of{t:TypeId}{ks:List Nat}(h:skinds P 20 t=some ks)(ha:isAggT P t=true)(hg:P.eqGuardType P.depth t=false):StructEq P t ks:=by
 obtain ⟨⟨h0,_,_⟩,he⟩:=(eq_parts (P:=P) 20).1 20 t ks (Nat.le_refl _) h
 refine ⟨h0,fun ds es w x y h1 h2=> ?_⟩
 have:=he 9999 ds es w (by omega) h1 h2
 simp only [valD,ha,if_true] at this
 refine ⟨run_eqGuard_agg w _ t x y _ _ hg,run_eqGuard_agg w _ t x y _ _ hg, ?_, ?_⟩
 ·rw [run_eql_struct,this];rfl
 ·rw [run_neq_struct,this];rfl
end
end Go.Nv
end
