import Derived.RangeFuncNested
import Derived.RangeFuncLeaves
import Derived.Test.YtlmmifgminkdkaaGreatNvN2
set_option linter.all false
set_option maxRecDepth 100000
section
namespace Go.Nv
open Go.RowKit
structure Gh where
 tmps:List Value
 l:Nat:=0
 fn:FuncId:=0
 D:Nat:=0
structure Ctx where
 w:World
 gs:Nat->Gh
 r:Option Nat
def qyW(old:Nat->Prop)(W:World)(ds:List Deferred):Prop:=
 ∃Ds:List Nat,ds=Ds.map (fun D=>{target:= .collected D,args:= #[] })/\Ds.Nodup/\ ∀D∈Ds,¬old D/\W.heap[D]? =some (.deferred (some []))
def qd0(W:World)(old:Nat->Prop)(ι:Nat->Value)(vr:Nat->Option (Option Nat))(ok:Nat->Prop)(g:Gh)(k:Nat):B->Prop
 | .ghost cs=>qao W ι vr ok cs g.tmps
 | .loop s pend ps asg body cs=>ι k= .func (.yield g.l) #[] #[] /\ok g.l/\(s= .busy\/ ¬old g.l)/\W.heap[g.l]? =some (.loop {state:=s,pending:=pend,fn:=g.fn,tmps:=g.tmps.toArray,params:=ps,assign:=asg,body:=body,defers:=g.D})/\qao W ι vr ok cs g.tmps
 |_=>True
structure Rel (old bs:Nat->Prop) (w0:Ctx) (ι:Nat->Value) (st:St) (a:Act) (W:World):Prop where
 defers:qyW old W a.defers
 oldIn:qbO old W
 fr:Fr old w0.w W
 tok:TOk W old bs ι (tat st.t)
 env:qao W ι (qap (tat st.t)) (okT bs (tat st.t) ι) st.env a.tmps.toList
 gh: ∀k,qd0 W old ι (qap (tat st.t)) (okT bs (tat st.t) ι) (w0.gs k) k (tat st.t k)
 lap: ∀j k,(tat st.t j).isLoop=true->(tat st.t k).isLoop=true->(w0.gs j).l=(w0.gs k).l->j=k
 rnd: ∀l,w0.r=some l->bs l/\ ∃rec,W.heap[l]? =some (.loop rec)
section
variable {P:Program} {old bs:Nat->Prop} {w0:Ctx} {W W':World} {ι ι':Nat->Value} {st st':St} {a a':Act} {o:Oper} {mu:Tmp->Bool}
theorem qof{v:Value}{d:D}(h:qks v=some d)(ok:Nat->Prop):Den W ok d v:=by
 unfold qks at h
 split at h
 ·rename_i cs
  obtain ⟨ds,h1,rfl⟩: ∃ds,cs.toList.mapM toD=some ds/\D.a ds=d:=by simpa using h
  obtain ⟨h2,h3⟩:=qr3 (W:=W) h1 ok
  have:=Den.a h2.1 h2.2 fun i u hu=>h3 u (List.mem_of_getElem? hu)
  simpa using this
 ·exact (qqG h ok).1
theorem Rel.ev(h:Rel old bs w0 ι st a W)(x:Operand):qaG W ι (qap (tat st.t)) (okT bs (tat st.t) ι) (ev st.env x) (a.eval x):=by
 cases x with
 |tmp t=>
  simp only [Nv.ev,Act.eval]
  cases hc:st.env[t]? with
  |none=>simp only [List.getD_eq_getElem?_getD,hc];exact .top
  |some c=>
   obtain ⟨u,hu,hd⟩:=h.env.at hc
   have:a.tmps.getD t undef=u:=by
    rw [Array.getElem?_toList] at hu
    simp [Array.getD_eq_getD_getElem?,hu]
   rw [this]
   simpa [List.getD_eq_getElem?_getD,hc] using hd
 |const v=>
  simp only [Nv.ev,Act.eval]
  split
  ·rename_i d hd;exact .d (qof hd _)
  ·exact .top
 |global g=>exact .top
 |func f=>exact .d (.f (us:= []) rfl (by simp))
theorem TOk.okNon{τ:Nat->B}(h:TOk W old bs ι τ){b:Nat}{o:Obj}(ho:W.heap[b]? =some o)(hc:isC o=false)(hb:bs b):okT bs τ ι b:=⟨hb,h.nonpriv ho hc⟩
theorem qyW.step{τ τ':Nat->B}{ds:List Deferred}(h:qyW old W ds)(hT:TOk W old bs ι τ)(hst:qax old bs W ι τ W' ι' τ'):qyW old W' ds:=by
 obtain ⟨Ds,h1,h2,h3⟩:=h
 refine ⟨Ds,h1,h2,fun D hD=> ?_⟩
 obtain ⟨h4,h5⟩:=h3 D hD
 exact ⟨h4,(hst.keep D (hT.okNon h5 rfl (hT.bsn _ h4)) (Array.getElem?_eq_some_iff.1 h5).1).trans h5⟩
theorem qd0.keep{ok ok':Nat->Prop}{vr vr':Nat->Option (Option Nat)}{g:Gh}{k:Nat}{e:B}(h:qd0 W old ι vr ok g k e)(hb: ∀b,ok b->b<W.heap.size->W'.heap[b]? =W.heap[b]?)(hok: ∀b,ok b->b<W.heap.size->ok' b)
  (hv:qaY ι ι' vr vr') (hi:e.isLoop=true->ι' k=ι k):qd0 W' old ι' vr' ok' g k e:=by
 cases e with
 |ghost cs=>exact qao.keep hb hok hv h
 |loop s pend ps asg body cs=>
  obtain ⟨h1,h2,h0,h3,h4⟩:=h
  have hl:=(Array.getElem?_eq_some_iff.1 h3).1
  exact ⟨(hi rfl).trans h1,hok _ h2 hl,h0,(hb _ h2 hl).trans h3,h4.keep hb hok hv⟩
 |_=>trivial
theorem qgf{e:B}(h:e.isLoop=true):e.gh=true:=by cases e<;>simp_all [B.isLoop,B.gh]
theorem qd0.triv{ok:Nat->Prop}{vr:Nat->Option (Option Nat)}{g:Gh}{k:Nat}{e:B}(h:e.gh=false):qd0 W old ι vr ok g k e:=by cases e<;>simp_all [B.gh,qd0]
theorem qax.iota{τ τ':Nat->B}(hst:qax old bs W ι τ W' ι' τ'){k:Nat}(hl:(τ' k).isLoop=true):ι' k=ι k:=by
 have e:=hst.gh k (qgf hl)
 have hv:qap τ k=some (some 0):=by unfold qap;rw [<-e];cases h:τ' k<;>rw [h] at hl<;>simp_all [B.isLoop,B.ver]
 have hv':qap τ' k=some (some 0):=by unfold qap at*;rw [e];exact hv
 exact (hst.ver.now (qaQ hv) hv').2
theorem Rel.ghStep{τ':Nat->B}(h:Rel old bs w0 ι st a W)(hst:qax old bs W ι (tat st.t) W' ι' τ'): ∀k,qd0 W' old ι' (qap τ') (okT bs τ' ι') (w0.gs k) k (τ' k):=by
 intro k
 cases hg:(τ' k).gh with
 |false=>exact .triv hg
 |true=>
  have:=h.gh k
  rw [<-hst.gh k hg] at this
  exact this.keep hst.keep hst.ok hst.ver fun hl=>hst.iota hl
theorem Rel.lapStep{τ':Nat->B}(h:Rel old bs w0 ι st a W)(hst:qax old bs W ι (tat st.t) W' ι' τ'): ∀j k,(τ' j).isLoop=true->(τ' k).isLoop=true->(w0.gs j).l=(w0.gs k).l->j=k:=
 fun j k hj hk=>h.lap j k (by rw [<-hst.gh j (qgf hj)];exact hj) (by rw [<-hst.gh k (qgf hk)];exact hk)
theorem Rel.rndStep{τ':Nat->B}(h:Rel old bs w0 ι st a W)(hst:qax old bs W ι (tat st.t) W' ι' τ'): ∀l,w0.r=some l->bs l/\ ∃rec,W'.heap[l]? =some (.loop rec):=fun l hl=>by
 obtain ⟨h1,rec,h2⟩:=h.rnd l hl
 exact ⟨h1,rec,(hst.keep l (h.tok.okNon h2 rfl h1) (Array.getElem?_eq_some_iff.1 h2).1).trans h2⟩
theorem Rel.put(h:Rel old bs w0 ι st a W){dst:Option Tmp}{s:S}{v:Value}{t:List B}(hst:qax old bs W ι (tat st.t) W' ι' (tat t))(hs:qaG W' ι' (qap (tat t)) (okT bs (tat t) ι') s v):
  Rel old bs w0 ι' ⟨qfg st.env dst s,t⟩ (a.put dst v) W':=by
 refine ⟨?_,h.oldIn.step hst.fr.size,h.fr.trans hst.fr,hst.tok, ?_,h.ghStep hst,h.lapStep hst,h.rndStep hst⟩
 ·cases dst<;>exact h.defers.step h.tok hst
 ·have henv:=hst.sdenL h.env
  cases dst with
  |none=>exact henv
  |some d=>
   have:=henv.set hs d
   simpa [qfg,Act.put] using this
def FW(r:Option Nat):Fence:={Fence.wide with round:=r}
theorem FW.calls{r:Option Nat}{n:Nat}{f:FuncId}{args:Array Value}{w:World}{R:Ending->World->Prop}(h:Calls P f args w R):CallsIn (FW r) n P f args w R:=
 (callsIn_wide (n:=n)).2 h
theorem FW.fn(r:Option Nat)(f:FuncId):(FW r).fn f:=trivial
theorem qc5{r:Option Nat}{n:Nat}(h:Rel old bs w0 ι st a W){val:S}{upd:Option (Nat×B)}(ho:qbg P old bs W ι (tat st.t) o a.eval val upd)(hnd: ∀c,o.op≠ .defer c)
  {K:Act->World->Prop} {Q:Exit->Act->World->Prop} (hK: ∀a' W' ι',qax old bs W ι (tat st.t) W' ι' (tat (qj9 st.t upd))->Rel old bs w0 ι' ⟨qfg st.env o.dst val,qj9 st.t upd⟩ a' W'->K a' W'):o.wpIn (FW r) n P a W K Q:=by
 obtain ⟨v,W',ι',hr,hst,hs⟩:=ho
 refine ⟨fun f _=>FW.fn r f, ?_⟩
 rw [Oper.semAt_eq _ _ _ hnd]
 rw [<-qmL] at hst hs
 have hrel:Rel old bs w0 ι' ⟨qfg st.env o.dst val,qj9 st.t upd⟩ (a.put o.dst v) W':=h.put hst hs
 rcases hr with hr|⟨hr,rfl⟩
 ·rw [hr];exact hK _ _ _ hst hrel
 ·rw [hr];exact hK _ _ _ hst hrel
theorem qeU{k0:Nat}{m:Bool}{σ:Operand->S}{τ:Nat->B}{e:Eff}(h:opS P k0 m σ τ o.type o.op=some e): ∀c,o.op≠ .defer c:=by
 intro c hc;rw [hc] at h;simp [opS,opA,opE] at h
theorem qec.toS{ok ok':Nat->Prop}(hb: ∀b,ok b->b<W.heap.size->ok' b){res:List D}{v:Value}{vr:Nat->Option (Option Nat)}(h:qec W ok res v):qaG W ι vr ok' (qj4 res) v:=by
 unfold qec at h
 unfold qj4
 split at h
 ·exact .d (h.keep (fun _ _ _=>rfl) hb)
 ·rename_i hne
  obtain ⟨us,rfl,hd⟩:=h
  have hd:=hd.keep (W':=W) (fun _ _ _=>rfl) hb
  have hs:=qao.ofDen (ι:=ι) (vr:=vr) hd
  split
  ·exact (hne _ rfl).elim
  ·exact .tup hs.1 hs.2
theorem qfA{r:Option Nat}{n:Nat}(h:Rel old bs w0 ι st a W){f:Operand}{args:Array Operand}{ts:Array TypeId}(hop:o.op= .call {callee:= .value f,args:=args,argTypes:=ts}){g:FuncId}{cap ds:List D}
  (hf:ev st.env f= .d (.f g cap)) (hds:qdY (args.toList.map (ev st.env))=some ds) {R:Ending->World->Prop}
  (hc: ∀us,qaM W (okT bs (tat st.t) ι) (ds++cap) us->Calls P g us.toArray W R) (hb:qe8 P g)
  {K:Act->World->Prop} {Q:Exit->Act->World->Prop} (hR: ∀e W',R e W'-> ∃v,e= .returned v/\K (a.put o.dst v) W'):o.wpIn (FW r) n P a W K Q:=by
 have hfv:=h.ev f
 rw [hf] at hfv
 obtain ⟨cs,hfe,hcs⟩:=qwv hfv
 have hargs:qao W ι (qap (tat st.t)) (okT bs (tat st.t) ι) (args.toList.map (ev st.env)) (args.toList.map a.eval):=by
  refine ⟨by simp,fun i c u hc hu=> ?_⟩
  rw [List.getElem?_map] at hc hu
  cases hq:args.toList[i]? with
  |none=>simp [hq] at hc
  |some q=>simp [hq] at hc hu;subst hc;subst hu;exact h.ev q
 rw [qbQ hds] at hargs
 have hd:=hargs.inv
 refine ⟨fun f _=>FW.fn r f, ?_⟩
 rw [Oper.semAt_eq _ _ _ (by rw [hop];simp)]
 have hrun:(execOp a.eval o).run P W= .ok (.enter g ((args.toList.map a.eval++cs).toArray)) W:=by
  have e1:args.map a.eval=(args.toList.map a.eval).toArray:=by cases args;simp
  obtain ⟨fn,h1,h2,h3⟩:=hb
  obtain ⟨c,h2⟩:=Option.isSome_iff_exists.1 h2
  simp [execOp,hop,resolve,hfe,Deferred.ofValue,invoke,callFunc,h1,h2,h3,e1]
  simp_all
 rw [hrun]
 refine ⟨by simp [FW,Fence.wide], ?_⟩
 refine CallsIn.mono (FW.calls (hc _ (hd.append hcs))) fun e W' he=> ?_
 obtain ⟨v,rfl,hk⟩:=hR e W' he
 exact hk
theorem qdW(hT:TOk W old bs ι (tat st.t))(hN:qbO old W){b:Nat}(hb:W.heap.size<=b):okT bs (tat st.t) ι b:=
 ⟨hT.bsn _ (fun ho=>absurd (hN _ ho) (by omega)),fun k hl hk=>absurd (hT.blk_new hl hk).2 (by omega)⟩
theorem qix{r:Option Nat}{n:Nat}(h:Rel old bs w0 ι st a W){f:Operand}{args:Array Operand}{ts:Array TypeId}(hop:o.op= .call {callee:= .value f,args:=args,argTypes:=ts}){g:FuncId}{x:Operand}{rest:List Operand}{ds:List D}
  {k ver:Nat} {e:TypeId} {size bytes:Nat} {xs ys:List D} (hf:ev st.env f= .d (.f g [])) (ha:args.toList=x::rest) (hx:ev st.env x= .own k ver) (hds:qdY (rest.map (ev st.env))=some ds) (hk:tat st.t k= .row ver e size bytes xs) (hfun:qna P g e size ds xs ys)
  {K:Act->World->Prop} {Q:Exit->Act->World->Prop} (hK: ∀a' W' ι',qax old bs W ι (tat st.t) W' ι' (tat (qaH st.t k (.row (ver+1) e size bytes ys)))->Rel old bs w0 ι' ⟨qfg st.env o.dst (.own k (ver+1)),qaH st.t k (.row (ver+1) e size bytes ys)⟩ a' W'->K a' W'):o.wpIn (FW r) n P a W K Q:=by
 have hfv:=h.ev f
 rw [hf] at hfv
 obtain ⟨cs,hfe,hcs⟩:=qwv hfv
 have hcs0:cs= [] :=List.eq_nil_of_length_eq_zero hcs.1
 subst hcs0
 have he:=h.tok.ent k
 rw [hk] at he
 obtain ⟨us0,hown,hden,hone,hnew⟩:=he
 have hlive:(tat st.t k).live=true:=by rw [hk];rfl
 have hargs:qao W ι (qap (tat st.t)) (okT bs (tat st.t) ι) (args.toList.map (ev st.env)) (args.toList.map a.eval):=by
  refine ⟨by simp,fun i c u hc hu=> ?_⟩
  rw [List.getElem?_map] at hc hu
  cases hq:args.toList[i]? with
  |none=>simp [hq] at hc
  |some q=>simp [hq] at hc hu;subst hc;subst hu;exact h.ev q
 rw [ha,List.map_cons,List.map_cons] at hargs
 obtain ⟨u1,us1,e1,h1,hus⟩:=hargs.cons_inv
 obtain ⟨rfl,rfl⟩:a.eval x=u1/\rest.map a.eval=us1:=by simpa using e1
 rw [hx] at h1
 have e2:=qcw h1 (qbl hk)
 rw [qbQ hds] at hus
 have hdd:=hus.inv
 refine ⟨fun f _=>FW.fn r f, ?_⟩
 rw [Oper.semAt_eq _ _ _ (by rw [hop];simp)]
 have hrun:(execOp a.eval o).run P W= .ok (.enter g ((a.eval x::rest.map a.eval).toArray)) W:=by
  obtain ⟨fn,h1,h2,h3⟩:=hfun.1
  obtain ⟨c,h2⟩:=Option.isSome_iff_exists.1 h2
  have:args=(x::rest).toArray:=by rw [<-ha]
  subst this
  simp [execOp,hop,resolve,hfe,Deferred.ofValue,invoke,callFunc,h1,h2,h3]
  simp_all
 rw [hrun]
 refine ⟨by simp [FW,Fence.wide], ?_⟩
 rw [e2]
 refine CallsIn.mono (FW.calls (hfun.2 W (okT bs (tat st.t) ι) (ι k) us0 (rest.map a.eval) hown hden hone (fun b hb ho=>ho.2 k hlive hb) hdd)) fun e' W' he'=> ?_
 obtain ⟨v',vs,rfl,hown',hd,h1',hbk,hgr⟩:=he'
 have hbo:=qcJ _ _ hown'
 have hst:qax old bs W ι (tat st.t) W' (at_ ι k v') (at_ (tat st.t) k (.row (ver+1) e size bytes ys)):=by
  refine h.tok.upd h.oldIn k _ _ (row:=blk (ι k)) hgr (fun b hb=>⟨hlive,hb⟩) (fun b _ hb=>(hbk b hb).elim (fun h=> .inr ⟨hlive,h⟩) .inl) ?_ fun hkeep hok hvk=> ?_
  ·intro c hc
   rw [hk] at hc
   simp [B.ver] at hc
   subst hc
   exact ⟨_,rfl,fun m' hm'=>⟨ver,rfl,by simp at hm';omega,fun hh=>by simp at hm';omega⟩⟩
  ·refine ⟨vs, ?_, ?_,h1',fun b hb=> ?_⟩
   ·rw [qam];exact hown'
   ·refine hd.keep (fun _ _ _=>rfl) fun b hb _=>⟨hb.1.elim (fun h=>h.1) (fun h2=>(qdW h.tok h.oldIn h2).1),fun j hj hbj=> ?_⟩
    by_cases ej:j=k
    ·subst ej;rw [qam] at hbj;exact hb.2 hbj
    ·rw [qa7 _ _ ej] at hj hbj
     rcases hb.1 with h2|h2
     ·exact h2.2 j hj hbj
     ·exact (qdW h.tok h.oldIn h2).2 j hj hbj
   ·rw [qam] at hb
    rcases hbk b hb with h2|h2
    ·exact hnew b h2
    ·intro ho;have:=h.oldIn b ho;omega
 refine hK _ _ (at_ ι k v') (by rw [qaD];exact hst) (h.put (t:=qaH st.t k _) (by rw [qaD];exact hst) ?_)
 rw [qaD]
 exact .own (qaQ (by simp [qap,qam,B.ver])) fun _=>by rw [qam]
theorem qiI{r:Option Nat}{n:Nat}(h:Rel old bs w0 ι st a W){f:Operand}{args:Array Operand}{ts:Array TypeId}(hop:o.op= .call {callee:= .value f,args:=args,argTypes:=ts}){g:FuncId}{cap ds res:List D}
  {k ver:Nat} {e:TypeId} {size bytes:Nat} {xs:List D} (hf:ev st.env f= .d (.f g cap)) (hk:tat st.t k= .row ver e size bytes xs) (h0:0<size) (hds:qdY ((args.toList.map (ev st.env)).map (qya k ver xs))=some ds) (hfun:Fun P g (ds++cap) res)
  {K:Act->World->Prop} {Q:Exit->Act->World->Prop} (hK: ∀a' W' ι',qax old bs W ι (tat st.t) W' ι' (tat (qaH st.t k .dead))->Rel old bs w0 ι' ⟨qfg st.env o.dst (qj4 res),qaH st.t k .dead⟩ a' W'->K a' W'):o.wpIn (FW r) n P a W K Q:=by
 have hlive:(tat st.t k).live=true:=by rw [hk];rfl
 have hst0:=qev h.tok h.oldIn k hlive
 have hfv:=hst0.sden (h.ev f)
 rw [hf] at hfv
 obtain ⟨cs,hfe,hcs⟩:=qwv hfv
 have hargs:qao W ι (qap (at_ (tat st.t) k .dead)) (okT bs (at_ (tat st.t) k .dead) ι) ((args.toList.map (ev st.env)).map (qya k ver xs)) (args.toList.map a.eval):=by
  refine ⟨by simp,fun i c u hc hu=> ?_⟩
  rw [List.map_map,List.getElem?_map] at hc
  rw [List.getElem?_map] at hu
  cases hq:args.toList[i]? with
  |none=>simp [hq] at hc
  |some q=>
   simp [hq] at hc hu;subst hc;subst hu
   have hs:=h.ev q
   unfold qya
   split
   ·rename_i j v hj
    rw [hj] at hs
    split
    ·rename_i hb
     rw [Bool.and_eq_true] at hb
     have e1:=Nat.eq_of_beq_eq_true hb.1
     have e2:=Nat.eq_of_beq_eq_true hb.2
     subst e1;subst e2
     rw [qcw hs (qbl hk)]
     exact .d (qjv h.tok hk h0)
    ·exact .top
   ·rename_i x hx
    rw [hx] at hs
    exact hst0.sden hs
   ·exact .top
 rw [qbQ hds] at hargs
 have hd:=hargs.inv
 refine ⟨fun f _=>FW.fn r f, ?_⟩
 rw [Oper.semAt_eq _ _ _ (by rw [hop];simp)]
 have hrun:(execOp a.eval o).run P W= .ok (.enter g ((args.toList.map a.eval++cs).toArray)) W:=by
  have e1:args.map a.eval=(args.toList.map a.eval).toArray:=by cases args;simp
  obtain ⟨fn,h1,h2,h3⟩:=hfun.1
  obtain ⟨c,h2⟩:=Option.isSome_iff_exists.1 h2
  simp [execOp,hop,resolve,hfe,Deferred.ofValue,invoke,callFunc,h1,h2,h3,e1]
  simp_all
 rw [hrun]
 refine ⟨by simp [FW,Fence.wide], ?_⟩
 refine CallsIn.mono (FW.calls (hfun.2 W _ _ (hd.append hcs))) fun e' W' he'=> ?_
 obtain ⟨v,rfl,hret,hbel⟩:=he'
 have hst:=hst0.trans (hst0.tok.quiet h.oldIn (qaL hbel))
 have hat:at_ (tat st.t) k .dead=tat (qaH st.t k .dead):=(qaD ..).symm
 have htk:TOk W old bs ι (tat (qaH st.t k .dead)):=by rw [<-hat];exact hst0.tok
 rw [hat] at hst hret
 exact hK _ _ ι hst (h.put (t:=qaH st.t k .dead) hst (hret.toS (fun b hb _=>hb.elim id (qdW (st:=⟨st.env,qaH st.t k .dead⟩) htk h.oldIn))))
theorem qeq{r:Option Nat}{n:Nat}{Kp:qcN->St->Prop}(h:Rel old bs w0 ι st a W)(hv:qcd P mu o st Kp){K:Act->World->Prop}{Q:Exit->Act->World->Prop}
  (hK: ∀l st' a' W' ι',Kp l st'->qax old bs W ι (tat st.t) W' ι' (tat st'.t)->Rel old bs w0 ι' st' a' W'->K a' W'):o.wpIn (FW r) n P a W K Q:=by
 unfold qcd at hv
 split at hv
 ·rename_i f args ts hop
  split at hv
  ·rename_i g cap ds hf hds
   rcases hv with ⟨res,hfun,hkp⟩|⟨e,size,bytes,res,hfun,hkp⟩
   ·refine qfA h hop hf hds (hc:=fun us hd=>hfun.2 W _ us hd) hfun.1 ?_
    rintro e W' ⟨v,rfl,hret,hbel⟩
    refine ⟨v,rfl, ?_⟩
    have hst:=h.tok.quiet h.oldIn (qaL hbel)
    exact hK _ _ _ _ ι hkp hst (h.put (t:=st.t) hst (hret.toS (fun b hb _=>hb.elim id (qdW h.tok h.oldIn))))
   ·refine qfA h hop hf hds (hc:=fun us hd=>hfun.2 W _ us hd) hfun.1 ?_
    rintro e' W' ⟨v,vs,rfl,hown,hd,h1,hbel⟩
    refine ⟨v,rfl, ?_⟩
    have hbo:=qcJ _ _ hown
    have hst:qax old bs W ι (tat st.t) W' (at_ ι st.t.length v) (at_ (tat st.t) st.t.length (.row 0 e size bytes res)):=by
     refine h.tok.upd h.oldIn st.t.length _ _ (row:=none) (qaL hbel) (by simp) (fun b _ hb=> .inl ?_) (by intro c hc;rw [qb7] at hc;simp [B.ver] at hc) fun hkeep hok hv=> ?_
     ·exact (hown.lt b (by rw [<-hbo];exact hb)).1
     ·refine ⟨vs, ?_, ?_,h1,fun b hb ho=> ?_⟩
      ·rw [qam]
       exact ⟨hown.1,hown.2.imp id fun ⟨g',cap',cur,q1,q2,q3⟩=>⟨g',cap',cur,q1,Nat.zero_le _,q3⟩⟩
      ·refine hd.keep (fun _ _ _=>rfl) fun b hb _=>⟨hb.1.elim (fun h=>h.1) (fun h2=>(qdW h.tok h.oldIn h2).1),fun j hj hbj=> ?_⟩
       by_cases ej:j=st.t.length
       ·subst ej;rw [qam] at hbj;exact hb.2 hbj
       ·rw [qa7 _ _ ej] at hj hbj
        rcases hb.1 with h2|h2
        ·exact h2.2 j hj hbj
        ·exact (qdW h.tok h.oldIn h2).2 j hj hbj
      ·rw [qam] at hb
       have:=(hown.lt b (by rw [<-hbo];exact hb)).1
       have:=h.oldIn b ho
       omega
    refine hK _ _ _ _ (at_ ι st.t.length v) hkp (by rw [qaD];exact hst) (h.put (t:=qaH st.t st.t.length _) (by rw [qaD];exact hst) ?_)
    rw [qaD]
    exact .own (qaQ (by simp [qap,qam,B.ver])) fun _=>by rw [qam]
  ·rename_i g cap hf hds
   rcases hv with ⟨x,rest,ds,k,ver,e,size,bytes,xs,ys,rfl,h1,h2,h3,h4,h5,h6⟩|⟨k,ver,e,size,bytes,xs,ds,res,h1,h2,h3,h4,h5⟩
   ·exact qix h hop hf h1 h2 h3 h4 h5 fun a' W' ι' hst hrel=>hK _ _ _ _ ι' h6 hst hrel
   ·exact qiI h hop hf h1 h2 h3 h4 fun a' W' ι' hst hrel=>hK _ _ _ _ ι' h5 hst hrel
  ·exact hv.elim
 ·split at hv
  ·rename_i e he
   exact qc5 h (qhZ h.tok h.oldIn (qb7 _) h.ev (fun v=>rfl) he hv.1) (qeU he) fun a' W' ι' hst hrel=>hK _ _ _ _ ι' hv.2 hst hrel
  ·exact hv.elim
theorem qhU(W:World)(ι:Nat->Value)(vr:Nat->Option (Option Nat))(ok:Nat->Prop):qaG W ι vr ok (.tup []) undef:= .tup (us:= []) rfl (by simp)
theorem qke{W:World}{ι:Nat->Value}{vr:Nat->Option (Option Nat)}{ok:Nat->Prop}{v:Value}(h:qaG W ι vr ok (.tup []) v):v=undef:=by
 obtain ⟨us,rfl,hs⟩:=qmU h
 rw [hs.nil_inv];rfl
theorem qcR{ops:Array Oper}{a:Act}{j d:Nat}(hd:(ops[j]?).bind (·.dst)=some d)(h:a.eval (.tmp d)=undef):yielded ops a.tmps j=none:=by
 unfold yielded
 rw [hd]
 simp only [Option.bind_some]
 have:a.tmps.getD d undef=undef:=h
 cases hq:a.tmps[d]? with
 |none=>rfl
 |some q=>rw [Array.getD_eq_getD_getElem?,hq] at this;simp at this;rw [this];rfl
theorem qls{r:Option Nat}{n:Nat}{ops:Array Oper}{Q:Exit->Act->World->Prop}{Kp:List qcN->St->Prop}(hK: ∀acc st' a' W' ι',Kp acc st'->Rel old bs w0 ι' st' a' W'->Q .normal a' W'):
  ∀(l:List Oper) (i:Nat) (acc:List qcN) (st:St) (a:Act) (W:World) (ι:Nat->Value),ops.toList.drop i=l->qgH P mu ops l acc st Kp->Rel old bs w0 ι st a W->wpOpsIn (FW r) n P ops Q (List.range' i l.length) a W:=by
 intro l
 induction l with
 |nil=>intro i acc st a W ι _ hv h;exact hK _ _ _ _ _ hv h
 |cons o l ih=>
  intro i acc st a W ι hd hv h
  have hoi:ops[i]? =some o:=by
   have:(ops.toList.drop i)[0]? =some o:=by rw [hd];rfl
   simpa using this
  have hd':ops.toList.drop (i+1)=l:=by
   rw [<-List.drop_drop,hd];rfl
  rw [List.length_cons,List.range'_succ]
  simp only [wpOpsIn,hoi]
  unfold qgH at hv
  split at hv
  ·rename_i hg
   rw [if_pos (by simp [Region.wanted,hg])]
   exact qeq h hv fun l' st' a' W' ι' hk _ hrel=>ih (i+1) _ _ _ _ ι' hd' hk hrel
  ·rename_i j want hg
   split at hv
   ·rename_i b hb
    cases hd2:(ops[j]?).bind (·.dst) with
    |none=>rw [hd2] at hb;simp [ev] at hb
    |some d=>
     rw [hd2] at hb
     have hsd:=h.ev (.tmp d)
     rw [hb] at hsd
     have hval:=(qdg hsd).1
     have hy:yielded ops a.tmps j=some b:=by
      unfold yielded
      rw [hd2]
      simp only [Option.bind_some]
      have:a.tmps.getD d undef= .bool b:=hval
      cases hq:a.tmps[d]? with
      |none=>rw [Array.getD_eq_getD_getElem?,hq] at this;simp [undef] at this
      |some q=>rw [Array.getD_eq_getD_getElem?,hq] at this;simp at this;rw [this]
     by_cases hbw:b=want
     ·rw [if_pos (by simp [Region.wanted,hg,hy,hbw])]
      exact qeq h (hv.1 hbw) fun l' st' a' W' ι' hk _ hrel=>ih (i+1) _ _ _ _ ι' hd' hk hrel
     ·rw [if_neg (by simp [Region.wanted,hg,hy,hbw])]
      refine ⟨fun f _=>FW.fn r f, ?_⟩
      refine ih (i+1) _ _ _ _ ι hd' (hv.2 hbw) ?_
      exact h.put (qax.refl h.tok) (qhU _ _ _ _)
   ·rename_i hb
    cases hd2:(ops[j]?).bind (·.dst) with
    |none=>rw [hd2] at hb;simp [ev] at hb
    |some d=>
     rw [hd2] at hb
     have hsd:=h.ev (.tmp d)
     rw [hb] at hsd
     have hy:=qcR (ops:=ops) (a:=a) hd2 (qke hsd)
     rw [if_neg (by simp [Region.wanted,hg,hy])]
     refine ⟨fun f _=>FW.fn r f, ?_⟩
     refine ih (i+1) _ _ _ _ ι hd' hv ?_
     exact h.put (qax.refl h.tok) (qhU _ _ _ _)
   ·exact hv.elim
end
end Go.Nv
end
section
namespace Go.Nv
open Go.RowKit
section
variable {P:Program} {σ σ':Operand->S} {τ τ':Nat->B} {k0:Nat} {m:Bool} {ty:TypeId} {e:Eff}
theorem qbW{op:Op}{x:Operand}{k:Nat}(hx:x∈op.operands.toList)(hk:k∈(σ x).refs)(hop:qgo σ op=op.operands.toList.flatMap fun x=>(σ x).refs):k∈qgo σ op:=by
 rw [hop];exact List.mem_flatMap.2 ⟨x,hx,hk⟩
theorem qoV{vr vr':Nat->Option (Option Nat)}{s:S}(h: ∀k∈s.refs,vr k=vr' k):qlU vr s=qlU vr' s:=by
 cases s<;>simp [qlU]
 ·rename_i k n _;rw [h k (by simp [S.refs])]
 ·rename_i k n;rw [h k (by simp [S.refs])]
theorem qtB{cs:List S}{c:S}(hc:c∈cs){k:Nat}(hk:k∈c.refs):k∈S.refs.refsL cs:=by
 induction cs with
 |nil=>simp at hc
 |cons d cs ih=>
  simp only [S.refs.refsL,List.mem_append]
  rcases List.mem_cons.1 hc with rfl|hc
  ·exact .inl hk
  ·exact .inr (ih hc)
theorem qoA{s c:S}(hc:c∈s.cells){k:Nat}(hk:k∈c.refs):k∈s.refs:=by
 cases s<;>simp only [S.cells] at hc
 ·simp at hc;obtain ⟨d,_,rfl⟩:=hc;simp [S.refs] at hk
 ·simp at hc;subst hc;exact hk
 ·simp at hc;subst hc;exact hk
 ·simp at hc;subst hc;exact hk
 ·simp at hc;subst hc;exact hk
 ·simp only [S.refs];exact qtB hc hk
 ·simp at hc;subst hc;exact hk
theorem qhx{vr vr':Nat->Option (Option Nat)}{s:S}(h: ∀k∈s.refs,vr k=vr' k):okS vr s=okS vr' s:=by
 have hone: ∀c∈s.cells,qlU vr c=qlU vr' c:=fun c hc=>qoV fun k hk=>h k (qoA hc hk)
 cases s<;>simp only [okS]
 all_goals rw [Bool.eq_iff_iff,List.all_eq_true,List.all_eq_true];exact ⟨fun h c hc=>by rw [<-hone c hc];exact h c hc,fun h c hc=>by rw [hone c hc];exact h c hc⟩
theorem qpH{op:Op}(hσ: ∀x∈op.operands.toList,σ x=σ' x)(hτ: ∀k∈qgo σ op,τ k=τ' k):opA P k0 m σ τ ty op=opA P k0 m σ' τ' ty op:=by
 have hv: ∀k∈qgo σ op,qap τ k=qap τ' k:=fun k hk=>by unfold qap;rw [hτ k hk]
 cases op with
 |move x=>simp only [opA];rw [hσ x (by simp [Op.operands])]
 |assign x=>simp only [opA];split<;>first|rfl|(rw [hσ x (by simp [Op.operands])])
 |pick c a b=>simp only [opA];rw [hσ c (by simp [Op.operands]),hσ a (by simp [Op.operands]),hσ b (by simp [Op.operands])]
 |alloc t=>rfl
 |box t x=>
  have h1:=hσ x (by simp [Op.operands])
  have hone:okS (qap τ) (σ x)=okS (qap τ') (σ x):=qhx fun k hk=>hv k (qbW (x:=x) (by simp [Op.operands]) hk rfl)
  simp only [opA]
  rw [<-h1]
  split
  ·rfl
  ·simp only [hone]
 |buildSlice t n ps=>
  simp only [opA]
  have:(ps.toList.map (·.2)).map σ=(ps.toList.map (·.2)).map σ':=List.map_congr_left fun x hx=>hσ x (by simpa [Op.operands] using hx)
  rw [this]
 |build t ps=>
  have h1:(ps.toList.map fun x=>(x.1,σ x.2))=ps.toList.map fun x=>(x.1,σ' x.2):=List.map_congr_left fun x hx=>by rw [hσ x.2 (by simp [Op.operands];exact ⟨x.1,by simpa using hx⟩)]
  have h2:(ps.toList.all fun x=>okS (qap τ) (σ x.2))=(ps.toList.all fun x=>okS (qap τ') (σ' x.2)):=by
   rw [Bool.eq_iff_iff,List.all_eq_true,List.all_eq_true]
   have key: ∀x∈ps.toList,okS (qap τ) (σ x.2)=okS (qap τ') (σ' x.2):=fun x hx=>by
    have hm:x.2∈(Op.build t ps).operands.toList:=by simp [Op.operands];exact ⟨x.1,by simpa using hx⟩
    rw [<-hσ x.2 hm]
    exact qhx fun k hk=>hv k (qbW (x:=x.2) hm hk rfl)
   exact ⟨fun h x hx=>by rw [<-key x hx];exact h x hx,fun h x hx=>by rw [key x hx];exact h x hx⟩
  simp only [opA,h1,h2]
 |load t x=>
  have h1:=hσ x (by simp [Op.operands])
  simp only [opA]
  rw [<-h1]
  cases hs:σ x with
  |ptr k ver off=>
   have h2:=hτ k (qbW (x:=x) (by simp [Op.operands]) (by rw [hs];simp [S.refs]) rfl)
   simp only [h2]
  |d y=>cases y<;>first|rfl|(rename_i z;cases z<;>rfl)
  |_=>rfl
 |store t x y=>
  have h1:=hσ x (by simp [Op.operands])
  have h2:=hσ y (by simp [Op.operands])
  have hall:okS (qap τ) (σ y)=okS (qap τ') (σ y):=qhx fun k hk=>hv k (qbW (x:=y) (by simp [Op.operands]) hk rfl)
  simp only [opA]
  rw [<-h1, <-h2]
  cases hs:σ x with
  |ptr k ver off=>
   have h3:=hτ k (qbW (x:=x) (by simp [Op.operands]) (by rw [hs];simp [S.refs]) rfl)
   simp only [h3,hall]
  |d y=>cases y<;>first|rfl|(rename_i z;cases z<;>rfl)
  |_=>rfl
 |nilCheck x=>
  have h1:=hσ x (by simp [Op.operands])
  simp only [opA]
  rw [<-h1]
  cases hs:σ x with
  |ptr k ver off=>
   have h2:=hv k (qbW (x:=x) (by simp [Op.operands]) (by rw [hs];simp [S.refs]) rfl)
   simp only [h2]
  |d y=>cases y<;>first|rfl|(rename_i z;cases z<;>rfl)
  |_=>rfl
 |binOp op xt x y yt=>simp only [opA];rw [hσ x (by simp [Op.operands]),hσ y (by simp [Op.operands])]
 |unOp op t x=>simp only [opA];rw [hσ x (by simp [Op.operands])]
 |convert s d x=>simp only [opA];rw [hσ x (by simp [Op.operands])]
 |makeFunc f a b=>
  cases f with
  |func g=>
   simp only [opA]
   have:b.toList.map σ=b.toList.map σ':=List.map_congr_left fun x hx=>hσ x (by simp [Op.operands];exact .inr (by simpa using hx))
   rw [this]
  |_=>rfl
 |makeSlice t l c=>simp only [opA];rw [hσ l (by simp [Op.operands]),hσ c (by simp [Op.operands])]
 |slice t x lo hi mx=>
  cases mx with
  |none=>
   have h1:=hσ x (by simp [Op.operands])
   have h2: ∀d,qff σ lo d=qff σ' lo d:=by
    intro d;cases lo with
    |none=>rfl
    |some y=>simp only [qff];rw [hσ y (by simp [Op.operands])]
   have h3: ∀d,qff σ hi d=qff σ' hi d:=by
    intro d;cases hi with
    |none=>rfl
    |some y=>simp only [qff];rw [hσ y (by simp [Op.operands])]
   simp only [opA,h1,h2,h3]
  |some _=>rfl
 |fieldAddr s x f=>
  have h1:=hσ x (by simp [Op.operands])
  simp only [opA]
  rw [<-h1]
  cases hs:σ x with
  |ptr k ver off=>
   have h2:=hv k (qbW (x:=x) (by simp [Op.operands]) (by rw [hs];simp [S.refs]) rfl)
   simp only [h2]
  |d y=>cases y<;>first|rfl|(rename_i z;cases z<;>rfl)
  |_=>rfl
 |field s x f=>simp only [opA];rw [hσ x (by simp [Op.operands])]
 |indexAddr t x i=>
  have h1:=hσ x (by simp [Op.operands])
  have h2:=hσ i (by simp [Op.operands])
  simp only [opA]
  rw [<-h1, <-h2]
  cases hs:σ x with
  |own k ver=>
   have h3:=hτ k (qbW (x:=x) (by simp [Op.operands]) (by rw [hs];simp [S.refs]) rfl)
   generalize σ i=q
   cases q with
   |d y=>cases y with
    |v z=>cases z with
     |int kk n=>cases qbw P t<;>simp only [h3]
     |_=>rfl
    |_=>rfl
   |_=>rfl
  |d y=>cases y<;>first|rfl|(generalize σ i=q;cases q<;>first|rfl|(rename_i w;cases w<;>first|rfl|(rename_i z;cases z<;>first|rfl|(cases qbw P t<;>rfl))|(cases qbw P t<;>rfl)))
  |_=>rfl
 |index t x i=>simp only [opA];rw [hσ x (by simp [Op.operands]),hσ i (by simp [Op.operands])]
 |extract x i=>simp only [opA];rw [hσ x (by simp [Op.operands])]
 |call c=>
  obtain ⟨cal,args,ts⟩:=c
  cases cal with
  |builtin b=>
   cases b with
   |len=>
    simp only [opA]
    split
    ·rename_i x t hargs hts
     have ha:args= #[x] :=by cases args;simp_all
     subst ha
     have h1:=hσ x (by simp [Op.operands,Call.operands])
     rw [<-h1]
     cases hs:σ x with
     |own k ver=>
      have h3:=hτ k (qbW (x:=x) (by simp [Op.operands,Call.operands]) (by rw [hs];simp [S.refs]) rfl)
      simp only [h3]
     |d y=>cases y<;>first|rfl|(rename_i z;cases z<;>rfl)
     |_=>rfl
    ·rfl
   |max=>
    simp only [opA]
    split
    ·rename_i x y hargs
     have ha:args= #[x,y] :=by cases args;simp_all
     subst ha
     rw [hσ x (by simp [Op.operands,Call.operands]),hσ y (by simp [Op.operands,Call.operands])]
    ·rename_i x y z hargs
     have ha:args= #[x,y,z] :=by cases args;simp_all
     subst ha
     rw [hσ x (by simp [Op.operands,Call.operands]),hσ y (by simp [Op.operands,Call.operands]),hσ z (by simp [Op.operands,Call.operands])]
    ·rename_i x y z u hargs
     have ha:args= #[x,y,z,u] :=by cases args;simp_all
     subst ha
     rw [hσ x (by simp [Op.operands,Call.operands]),hσ y (by simp [Op.operands,Call.operands]),hσ z (by simp [Op.operands,Call.operands]),hσ u (by simp [Op.operands,Call.operands])]
    ·rfl
   |append=>
    simp only [opA]
    split
    ·rename_i s x t t' hargs hts
     have ha:args= #[s,x] :=by cases args;simp_all
     subst ha
     have h1:=hσ s (by simp [Op.operands,Call.operands])
     have h2:=hσ x (by simp [Op.operands,Call.operands])
     rw [<-h1, <-h2]
     cases hs:σ s with
     |own k ver=>
      have h3:=hτ k (qbW (x:=s) (by simp [Op.operands,Call.operands]) (by rw [hs];simp [S.refs]) rfl)
      generalize σ x=q
      cases q with
      |d y=>cases y with
       |l ys=>cases qbw P t<;>simp only [h3]
       |_=>rfl
      |_=>rfl
     |_=>rfl
    ·rfl
   |_=>rfl
  |value f=>rfl
  |invoke r mm=>rfl
 |_=>rfl
theorem qBG{op:Op}(h:opA P k0 m σ τ ty op=some e):(∃b,e.upd=some (k0,b))\/ ∀k1,opA P k1 m σ τ ty op=some e:=by
 cases op with
 |assign x=>
  simp only [opA] at h
  split at h
  ·split at h
   ·simp at h;subst h;exact .inl ⟨_,rfl⟩
   ·simp at h
  ·rename_i hne
   right;intro k1
   simp only [opA]
   exact h
 |alloc t=>
  simp only [opA] at h
  split at h
  ·simp at h;subst h;exact .inl ⟨_,rfl⟩
  ·simp at h
 |box t x=>
  cases m with
  |false=>
   cases hs:σ x with
   |d y=>right;intro k1;simp only [opA,hs] at h ⊢;exact h
   |_=>left;simp only [opA,hs] at h;simp at h;subst h;exact ⟨_,rfl⟩
  |true=>left;simp only [opA] at h;simp at h;subst h;exact ⟨_,rfl⟩
 |buildSlice t n ps=>
  simp only [opA] at h
  split at h
  ·rename_i e' ds h1 h2
   split at h
   ·rename_i hc
    cases m with
    |true=>left;simp at h;subst h;exact ⟨_,rfl⟩
    |false=>right;intro k1;simp only [opA,h1,h2,if_pos hc];simpa using h
   ·simp at h
  ·simp at h
 |makeSlice t l c=>
  simp only [opA] at h
  split at h
  ·split at h
   ·simp at h;subst h;exact .inl ⟨_,rfl⟩
   ·simp at h
  ·simp at h
 |call c=>
  obtain ⟨cal,args,ts⟩:=c
  cases cal with
  |builtin b=>cases b<;>exact .inr fun _=>h
  |value f=>exact .inr fun _=>h
  |invoke r mm=>exact .inr fun _=>h
 |slice t x lo hi mx=>cases mx<;>exact .inr fun _=>h
 |makeFunc f a b=>cases f<;>exact .inr fun _=>h
 |_=>exact .inr fun _=>h
theorem qrj{op:Op}(hσ: ∀x∈op.operands.toList,σ x=σ' x)(hτ: ∀k∈qgo σ op,τ k=τ' k):opE P σ τ op=opE P σ' τ' op:=by
 have hv: ∀k∈qgo σ op,qap τ k=qap τ' k:=fun k hk=>by unfold qap;rw [hτ k hk]
 cases op with
 |convert s d x=>
  have h1:=hσ x (by simp [Op.operands])
  simp only [opE]
  rw [<-h1]
  cases hs:σ x with
  |own k ver=>
   have h3:=hτ k (qbW (x:=x) (by simp [Op.operands]) (by rw [hs];simp [S.refs]) rfl)
   simp only [h3]
  |d y=>cases y<;>first|rfl|(rename_i z;cases z<;>rfl)
  |_=>rfl
 |indexAddr t x i=>
  have h1:=hσ x (by simp [Op.operands])
  have h2:=hσ i (by simp [Op.operands])
  simp only [opE]
  rw [<-h1, <-h2]
  cases hs:σ x with
  |ptr k ver off=>
   have h3:=hv k (qbW (x:=x) (by simp [Op.operands]) (by rw [hs];simp [S.refs]) rfl)
   simp only [h3]
  |d y=>cases y<;>rfl
  |_=>rfl
 |index t x i=>
  have h1:=hσ x (by simp [Op.operands])
  have h2:=hσ i (by simp [Op.operands])
  simp only [opE]
  rw [<-h1, <-h2]
 |slice t x lo hi mx=>
  cases mx with
  |some _=>rfl
  |none=>
   have h1:=hσ x (by simp [Op.operands])
   have h2: ∀d,qff σ lo d=qff σ' lo d:=by
    intro d;cases lo with
    |none=>rfl
    |some y=>simp only [qff];rw [hσ y (by simp [Op.operands])]
   have h3: ∀d,qff σ hi d=qff σ' hi d:=by
    intro d;cases hi with
    |none=>rfl
    |some y=>simp only [qff];rw [hσ y (by simp [Op.operands])]
   simp only [opE]
   rw [<-h1]
   cases hs:σ x with
   |own k ver=>
    have h4:=hτ k (qbW (x:=x) (by simp [Op.operands]) (by rw [hs];simp [S.refs]) rfl)
    simp only [h4,h2,h3]
   |ptr k ver off=>
    have h4:=hτ k (qbW (x:=x) (by simp [Op.operands]) (by rw [hs];simp [S.refs]) rfl)
    cases off with
    |zero=>simp only [h4,h2,h3]
    |succ o=>rfl
   |d y=>cases y<;>rfl
   |_=>rfl
 |call c=>
  obtain ⟨cal,args,ts⟩:=c
  cases cal with
  |builtin b=>
   cases b with
   |copy=>
    simp only [opE]
    split
    ·rename_i s x t t' hargs hts
     have ha:args= #[s,x] :=by cases args;simp_all
     subst ha
     have h1:=hσ s (by simp [Op.operands,Call.operands])
     have h2:=hσ x (by simp [Op.operands,Call.operands])
     rw [<-h1, <-h2]
     cases hs:σ s with
     |own k ver=>
      have h3:=hτ k (qbW (x:=s) (by simp [Op.operands,Call.operands]) (by rw [hs];simp [S.refs]) rfl)
      generalize σ x=q
      cases q with
      |d y=>cases y with
       |l ys=>cases qbw P t<;>simp only [h3]
       |_=>rfl
      |_=>rfl
     |_=>rfl
    ·rfl
   |min=>
    simp only [opE]
    split
    ·rename_i x y hargs
     have ha:args= #[x,y] :=by cases args;simp_all
     subst ha
     rw [hσ x (by simp [Op.operands,Call.operands]),hσ y (by simp [Op.operands,Call.operands])]
    ·rfl
   |_=>rfl
  |value f=>rfl
  |invoke r mm=>rfl
 |_=>rfl
theorem qrl{op:Op}(hσ: ∀x∈op.operands.toList,σ x=σ' x)(hτ: ∀k∈qgo σ op,τ k=τ' k):opS P k0 m σ τ ty op=opS P k0 m σ' τ' ty op:=by
 unfold opS
 rw [qpH hσ hτ,qrj hσ hτ]
theorem qzk{op:Op}(h:opS P k0 m σ τ ty op=some e):(∃b,e.upd=some (k0,b))\/ ∀k1,opS P k1 m σ τ ty op=some e:=by
 unfold opS at h
 split at h
 ·rename_i e' he
  simp at h;subst h
  rcases qBG he with h|h
  ·exact .inl h
  ·exact .inr fun k1=>qdB (h k1)
 ·rename_i hn
  right
  intro k1
  unfold opS
  have:opA P k1 m σ τ ty op=none:=by
   cases op with
   |convert s d x=>exact hn
   |indexAddr t x i=>exact hn
   |index t x i=>exact hn
   |slice t x lo hi mx=>cases mx<;>exact hn
   |call c=>
    obtain ⟨cal,args,ts⟩:=c
    cases cal with
    |builtin b=>cases b<;>exact hn
    |value f=>exact hn
    |invoke r mm=>exact hn
   |_=>simp [opE] at h
  rw [this];exact h
end
end Go.Nv
end
section
namespace Go.Nv
open Go.RowKit
structure Ent where
 o:Oper
 run:Bool
 val:S
 upd:Option (Nat×B)
 l:qcN
def qaK(st:St)(e:Ent):St:=⟨qfg st.env e.o.dst e.val,qj9 st.t e.upd⟩
def stL(L:Nat->Bool):Nat->List Ent->St->St
 |_, [],st=>st
 |i,e::es,st=>stL L (i+1) es (if L i then qaK st e else st)
def qww(P:Program)(m:Bool)(σ:Operand->S)(τ:Nat->B)(k0:Nat)(o:Oper)(val:S)(upd:Option (Nat×B))(l:qcN):Prop:=
 (qmv o.op=false/\ ∃e,opS P k0 m σ τ o.type o.op=some e/\e.side/\val=e.val/\upd=e.upd/\l=⟨qgo σ o.op,e.upd.map (·.1)⟩)\/
 (∃f args ts g cap ds res,o.op= .call {callee:= .value f,args:=args,argTypes:=ts}/\σ f= .d (.f g cap)/\qdY (args.toList.map σ)=some ds/\Fun P g (ds++cap) res/\val=qj4 res/\upd=none/\l=⟨[],none⟩)\/
 (∃f args ts g cap ds e size bytes res,o.op= .call {callee:= .value f,args:=args,argTypes:=ts}/\σ f= .d (.f g cap)/\qdY (args.toList.map σ)=some ds/\qps P g (ds++cap) e size res/\val= .own k0 0/\upd=some (k0,.row 0 e size bytes res)/\l=⟨[],some k0⟩)\/
 (∃f args ts g x rest ds k ver e size bytes xs ys,o.op= .call {callee:= .value f,args:=args,argTypes:=ts}/\σ f= .d (.f g [])/\args.toList=x::rest/\σ x= .own k ver/\qdY (rest.map σ)=some ds/\τ k= .row ver e size bytes xs/\qna P g e size ds xs ys/\
  val= .own k (ver+1)/\upd=some (k,.row (ver+1) e size bytes ys)/\l=⟨[k],some k⟩)\/
 (∃f args ts g cap k ver e size bytes xs ds res,o.op= .call {callee:= .value f,args:=args,argTypes:=ts}/\σ f= .d (.f g cap)/\τ k= .row ver e size bytes xs/\0<size/\qdY ((args.toList.map σ).map (qya k ver xs))=some ds/\Fun P g (ds++cap) res/\
  val=qj4 res/\upd=some (k,.dead)/\l=⟨[k],some k⟩)
def qep(ops:Array Oper)(σ:Operand->S)(o:Oper)(run:Bool):Prop:=
 match o.guard with
 |none=>run=true
 |some (j,w)=>(∃d b,(ops[j]?).bind (·.dst)=some d/\σ (.tmp d)= .d (.v (.bool b))/\run=(b==w))\/(∃d,(ops[j]?).bind (·.dst)=some d/\σ (.tmp d)= .tup [] /\run=false)
def qe6(P:Program)(mu:Tmp->Bool)(ops:Array Oper)(st:St)(e:Ent):Prop:=
 qep ops (ev st.env) e.o e.run/\(e.run=true->qww P (qr1 mu e.o.dst) (ev st.env) (tat st.t) st.t.length e.o e.val e.upd e.l)/\(e.run=false->e.val= .tup [] /\e.upd=none/\e.l=⟨[],none⟩)
section
variable {P:Program} {mu:Tmp->Bool} {ops:Array Oper}
theorem qmp{o:Oper}{st:St}{K:qcN->St->Prop}(h:qcd P mu o st K): ∃val upd l,qww P (qr1 mu o.dst) (ev st.env) (tat st.t) st.t.length o val upd l/\K l ⟨qfg st.env o.dst val,qj9 st.t upd⟩:=by
 unfold qcd at h
 split at h
 ·rename_i f args ts hop
  split at h
  ·rename_i g cap ds hf hds
   rcases h with ⟨res,h1,h2⟩|⟨e,size,bytes,res,h1,h2⟩
   ·exact ⟨_,none,_,.inr (.inl ⟨f,args,ts,g,cap,ds,res,hop,hf,hds,h1,rfl,rfl,rfl⟩),h2⟩
   ·exact ⟨_,some (st.t.length,.row 0 e size bytes res),_,.inr (.inr (.inl ⟨f,args,ts,g,cap,ds,e,size,bytes,res,hop,hf,hds,h1,rfl,rfl,rfl⟩)),h2⟩
  ·rename_i g cap hf hds
   rcases h with ⟨x,rest,ds,k,ver,e,size,bytes,xs,ys,rfl,h1,h2,h3,h4,h5,h6⟩|⟨k,ver,e,size,bytes,xs,ds,res,h1,h2,h3,h4,h5⟩
   ·exact ⟨_,some (k,.row (ver+1) e size bytes ys),_,.inr (.inr (.inr (.inl ⟨f,args,ts,g,x,rest,ds,k,ver,e,size,bytes,xs,ys,hop,hf,h1,h2,h3,h4,h5,rfl,rfl,rfl⟩))),h6⟩
   ·exact ⟨_,some (k,.dead),_,.inr (.inr (.inr (.inr ⟨f,args,ts,g,cap,k,ver,e,size,bytes,xs,ds,res,hop,hf,h1,h2,h3,h4,rfl,rfl,rfl⟩))),h5⟩
  ·exact h.elim
 ·rename_i hnc
  have hc:qmv o.op=false:=by
   unfold qmv
   split
   ·rename_i f a t hop;exact absurd hop (by intro h;exact hnc _ _ _ h)
   ·rfl
  split at h
  ·rename_i e he
   exact ⟨e.val,e.upd,_,.inl ⟨hc,e,he,h.1,rfl,rfl,rfl⟩,h.2⟩
  ·exact h.elim
theorem qe3{K:List qcN->St->Prop}: ∀(l:List Oper) (acc:List qcN) (st:St),qgH P mu ops l acc st K->
  ∃es:List Ent,es.map (·.o)=l/\(∀i e,es[i]? =some e->qe6 P mu ops ((es.take i).foldl qaK st) e)/\K (acc++es.map (·.l)) (es.foldl qaK st):=by
 intro l
 induction l with
 |nil=>intro acc st h;exact ⟨[],rfl,by simp,by simp only [List.map_nil,List.append_nil];exact h⟩
 |cons o l ih=>
  intro acc st h
  have run: ∀(hg:qep ops (ev st.env) o true),(qcd P mu o st fun l' st'=>qgH P mu ops l (acc++ [l']) st' K)->
    ∃es:List Ent,es.map (·.o)=o::l/\(∀i e,es[i]? =some e->qe6 P mu ops ((es.take i).foldl qaK st) e)/\K (acc++es.map (·.l)) (es.foldl qaK st):=by
   intro hg hv
   obtain ⟨val,upd,lk,hf,hk⟩:=qmp hv
   obtain ⟨es,h1,h2,h3⟩:=ih _ _ hk
   refine ⟨⟨o,true,val,upd,lk⟩::es,by simp [h1], ?_,by simpa [qaK] using h3⟩
   intro i e he
   cases i with
   |zero=>simp at he;subst he;exact ⟨hg,fun _=>hf,fun h=>by simp at h⟩
   |succ i=>simp at he;simpa [qaK] using h2 i e he
  unfold qgH at h
  split at h
  ·rename_i hg;exact run (by simp [qep,hg]) h
  ·rename_i j want hg
   split at h
   ·rename_i b hb
    cases hd:(ops[j]?).bind (·.dst) with
    |none=>rw [hd] at hb;simp [ev] at hb
    |some d=>
     rw [hd] at hb
     by_cases hbw:b=want
     ·exact run (by simp only [qep,hg];exact .inl ⟨d,b,hd,hb,by simp [hbw]⟩) (h.1 hbw)
     ·obtain ⟨es,h1,h2,h3⟩:=ih _ _ (h.2 hbw)
      refine ⟨⟨o,false,.tup [],none,⟨[],none⟩⟩::es,by simp [h1], ?_,by simpa [qaK,qj9] using h3⟩
      intro i e he
      cases i with
      |zero=>
       simp at he;subst he
       exact ⟨by simp only [qep,hg];exact .inl ⟨d,b,hd,hb,by simp [hbw]⟩,fun h=>by simp at h,fun _=>⟨rfl,rfl,rfl⟩⟩
      |succ i=>simp at he;simpa [qaK,qj9] using h2 i e he
   ·rename_i hb
    cases hd:(ops[j]?).bind (·.dst) with
    |none=>rw [hd] at hb;simp [ev] at hb
    |some d=>
     rw [hd] at hb
     obtain ⟨es,h1,h2,h3⟩:=ih _ _ h
     refine ⟨⟨o,false,.tup [],none,⟨[],none⟩⟩::es,by simp [h1], ?_,by simpa [qaK,qj9] using h3⟩
     intro i e he
     cases i with
     |zero=>
      simp at he;subst he
      exact ⟨by simp only [qep,hg];exact .inr ⟨d,hd,hb,trivial⟩,fun h=>by simp at h,fun _=>⟨rfl,rfl,rfl⟩⟩
     |succ i=>simp at he;simpa [qaK,qj9] using h2 i e he
   ·exact h.elim
theorem qcL(env:List S)(dst:Option Tmp)(s:S):(qfg env dst s).length=env.length:=by cases dst<;>simp [qfg]
theorem qma{env:List S}{dst:Option Tmp}{s:S}{d:Nat}(h:dst≠some d):(qfg env dst s).getD d .top=env.getD d .top:=by
 cases dst with
 |none=>rfl
 |some k=>
  have:k≠d:=fun e=>h (by rw [e])
  simp [qfg,List.getD_eq_getElem?_getD,List.getElem?_set_ne this]
theorem qfF(env:List S)(s:S)(d:Nat):(qfg env (some d) s).getD d .top=if d<env.length then s else .top:=by
 simp only [qfg,List.getD_eq_getElem?_getD,List.getElem?_set]
 simp
 split<;>rfl
theorem qdE(L:Nat->Bool): ∀(i:Nat) (es:List Ent) (st:St),(stL L i es st).env.length=st.env.length
 |_, [],_=>rfl
 |i,e::es,st=>by
  rw [stL,qdE]
  split
  ·exact qcL _ _ _
  ·rfl
theorem qe9{L L':Nat->Bool}{d:Nat}: ∀(i:Nat) (es:List Ent) (st st':St),st.env.length=st'.env.length->st.env.getD d .top=st'.env.getD d .top->
  (∀j e,es[j]? =some e->e.o.dst=some d->L (i+j)=L' (i+j))->(stL L i es st).env.getD d .top=(stL L' i es st').env.getD d .top
 |_, [],_,_,_,h,_=>h
 |i,e::es,st,st',hl,h,hL=>by
  rw [stL,stL]
  have hrec: ∀j e',es[j]? =some e'->e'.o.dst=some d->L (i+1+j)=L' (i+1+j):=fun j e' he hd=>by
   have:=hL (j+1) e' (by simpa using he) hd
   rwa [show i+(j+1)=i+1+j from by omega] at this
  have key: ∀(b b':Bool) (st st':St),st.env.length=st'.env.length->st.env.getD d .top=st'.env.getD d .top->(e.o.dst=some d->b=b')->
    (if b=true then qaK st e else st).env.length=(if b'=true then qaK st' e else st').env.length/\(if b=true then qaK st e else st).env.getD d .top=(if b'=true then qaK st' e else st').env.getD d .top:=by
   intro b b' st st' hl h hb
   by_cases hd:e.o.dst=some d
   ·have:=hb hd;subst this
    cases b with
    |true=>simp only [if_true,qaK,hd,qcL];exact ⟨hl,by rw [qfF,qfF,hl]⟩
    |false=>exact ⟨hl,h⟩
   ·cases b<;>cases b'<;>simp only [if_true,Bool.false_eq_true,if_false,qaK,qcL,qma hd] <;>exact ⟨hl,h⟩
  obtain ⟨k1,k2⟩:=key (L i) (L' i) st st' hl h (fun hd=>by simpa using hL 0 e rfl hd)
  exact qe9 (i+1) es _ _ k1 k2 hrec
theorem qcy(st:St)(e:Ent)(k:Nat):tat (qaK st e).t k=qrB (tat st.t) e.upd k:=by simp only [qaK];rw [qmL]
theorem qeY{L L':Nat->Bool}{k:Nat}: ∀(i:Nat) (es:List Ent) (st st':St),tat st.t k=tat st'.t k->
  (∀j e,es[j]? =some e->e.upd.map (·.1)=some k->L (i+j)=L' (i+j))->tat (stL L i es st).t k=tat (stL L' i es st').t k
 |_, [],_,_,h,_=>h
 |i,e::es,st,st',h,hL=>by
  rw [stL,stL]
  have hrec: ∀j e',es[j]? =some e'->e'.upd.map (·.1)=some k->L (i+1+j)=L' (i+1+j):=fun j e' he hd=>by
   have:=hL (j+1) e' (by simpa using he) hd
   rwa [show i+(j+1)=i+1+j from by omega] at this
  refine qeY (i+1) es _ _ ?_ hrec
  have ne:e.upd.map (·.1)≠some k-> ∀st:St,tat (qaK st e).t k=tat st.t k:=by
   intro hd st
   rw [qcy]
   cases hu:e.upd with
   |none=>rfl
   |some x=>rw [hu] at hd;simp at hd;simp only [qrB];rw [qa7 _ _ (fun e=>hd e.symm)]
  by_cases hd:e.upd.map (·.1)=some k
  ·have:=hL 0 e rfl hd
   simp at this
   rw [this]
   cases L' i with
   |true=>
    simp only [if_true]
    rw [qcy,qcy]
    cases hu:e.upd with
    |none=>rw [hu] at hd;simp at hd
    |some x=>rw [hu] at hd;simp at hd;simp only [qrB, <-hd,qam]
   |false=>exact h
  ·cases L i<;>cases L' i<;>simp only [if_true,Bool.false_eq_true,if_false,ne hd] <;>exact h
theorem qjz: ∀(i:Nat) (es:List Ent) (st:St),stL (fun _=>true) i es st=es.foldl qaK st
 |_, [],_=>rfl
 |i,e::es,st=>by rw [stL,if_pos rfl,qjz];rfl
theorem qg3{L:Nat->Bool}: ∀(i:Nat) (es:List Ent) (st:St),(∀j,j<es.length->L (i+j)=false)->stL L i es st=st
 |_, [],_,_=>rfl
 |i,e::es,st,h=>by
  rw [stL,if_neg (by have:=h 0 (by simp);simpa using this)]
  exact qg3 (i+1) es st fun j hj=>by rw [show i+1+j=i+(j+1) from by omega];exact h (j+1) (by simpa using hj)
theorem qh3: ∀(es:List Ent) (k i:Nat) (st:St),stL (fun j=>decide (j<k+i)) k es st=(es.take i).foldl qaK st
 | [],k,i,st=>by simp [stL]
 |e::es,k,0,st=>by
  rw [qg3];rfl
  intro j _;simp
 |e::es,k,i+1,st=>by
  rw [stL,if_pos (by simp)]
  have:=qh3 es (k+1) i (qaK st e)
  rw [show k+1+i=k+(i+1) from by omega] at this
  rw [this];rfl
end
end Go.Nv
end
section
namespace Go.Nv
open Go.RowKit
section
variable {P:Program} {mu:Tmp->Bool} {ops:Array Oper} {old bs:Nat->Prop} {w0:Ctx} {r:Option Nat} {n:Nat}
theorem qww.local{m:Bool}{σ σ':Operand->S}{τ τ':Nat->B}{k0 k1:Nat}{o:Oper}{val:S}{upd:Option (Nat×B)}{l:qcN}(h:qww P m σ τ k0 o val upd l)
  (hσ: ∀x∈o.op.operands.toList,σ x=σ' x) (hτ: ∀k∈l.tch,τ k=τ' k) (hk1:τ' k1= .gone) (hk:(∃b,upd=some (k0,b))->τ' k0= .gone): ∃k2 l',τ' k2= .gone/\qww P m σ' τ' k2 o val upd l':=by
 have hcallσ: ∀{f:Operand} {args:Array Operand} {ts:Array TypeId},o.op= .call {callee:= .value f,args:=args,argTypes:=ts}->σ f=σ' f/\args.toList.map σ=args.toList.map σ':=by
  intro f args ts hop
  refine ⟨hσ f (by rw [hop];simp [Op.operands,Call.operands]),List.map_congr_left fun x hx=>hσ x (by rw [hop];simp [Op.operands,Call.operands];exact .inr (by simpa using hx))⟩
 rcases h with ⟨hc,e,he,hs,rfl,rfl,rfl⟩|⟨f,args,ts,g,cap,ds,res,hop,hf,hds,hfun,rfl,rfl,rfl⟩|⟨f,args,ts,g,cap,ds,e,size,bytes,res,hop,hf,hds,hfun,rfl,rfl,rfl⟩|⟨f,args,ts,g,x,rest,ds,k,ver,e,size,bytes,xs,ys,hop,hf,ha,hx,hds,hkk,hfun,rfl,rfl,rfl⟩|⟨f,args,ts,g,cap,k,ver,e,size,bytes,xs,ds,res,hop,hf,hkk,h0,hds,hfun,rfl,rfl,rfl⟩
 ·have h2:=qrl (P:=P) (k0:=k0) (m:=m) (ty:=o.type) hσ hτ
  rw [h2] at he
  rcases qzk he with ⟨b,hb⟩|hany
  ·exact ⟨k0,_,hk ⟨b,hb⟩,.inl ⟨hc,e,he,hs,rfl,rfl,rfl⟩⟩
  ·exact ⟨k1,_,hk1,.inl ⟨hc,e,hany k1,hs,rfl,rfl,rfl⟩⟩
 ·obtain ⟨h1,h2⟩:=hcallσ hop
  exact ⟨k1,_,hk1,.inr (.inl ⟨f,args,ts,g,cap,ds,res,hop,by rw [<-h1];exact hf,by rw [<-h2];exact hds,hfun,rfl,rfl,rfl⟩)⟩
 ·obtain ⟨h1,h2⟩:=hcallσ hop
  exact ⟨k0,_,hk ⟨_,rfl⟩,.inr (.inr (.inl ⟨f,args,ts,g,cap,ds,e,size,bytes,res,hop,by rw [<-h1];exact hf,by rw [<-h2];exact hds,hfun,rfl,rfl,rfl⟩))⟩
 ·obtain ⟨h1,h2⟩:=hcallσ hop
  rw [ha,List.map_cons,List.map_cons] at h2
  obtain ⟨h2,h3⟩:=List.cons.inj h2
  exact ⟨k1,_,hk1,.inr (.inr (.inr (.inl ⟨f,args,ts,g,x,rest,ds,k,ver,e,size,bytes,xs,ys,hop,by rw [<-h1];exact hf,ha,by rw [<-h2];exact hx,by rw [<-h3];exact hds,by rw [<-hτ k (by simp)];exact hkk,hfun,rfl,rfl,rfl⟩)))⟩
 ·obtain ⟨h1,h2⟩:=hcallσ hop
  exact ⟨k1,_,hk1,.inr (.inr (.inr (.inr ⟨f,args,ts,g,cap,k,ver,e,size,bytes,xs,ds,res,hop,by rw [<-h1];exact hf,by rw [<-hτ k (by simp)];exact hkk,h0,by rw [<-h2];exact hds,hfun,rfl,rfl,rfl⟩)))⟩
theorem qww.sound{st:St}{a:Act}{W:World}{ι:Nat->Value}{m:Bool}{k0:Nat}{o:Oper}{val:S}{upd:Option (Nat×B)}{l:qcN}(h:Rel old bs w0 ι st a W)(hv:qww P m (ev st.env) (tat st.t) k0 o val upd l)(hk0:tat st.t k0= .gone)
  {K:Act->World->Prop} {Q:Exit->Act->World->Prop} (hK: ∀a' W' ι',Rel old bs w0 ι' ⟨qfg st.env o.dst val,qj9 st.t upd⟩ a' W'->K a' W'):o.wpIn (FW r) n P a W K Q:=by
 rcases hv with ⟨hc,e,he,hs,rfl,rfl,rfl⟩|⟨f,args,ts,g,cap,ds,res,hop,hf,hds,hfun,rfl,rfl,rfl⟩|⟨f,args,ts,g,cap,ds,e,size,bytes,res,hop,hf,hds,hfun,rfl,rfl,rfl⟩|⟨f,args,ts,g,x,rest,ds,k,ver,e,size,bytes,xs,ys,hop,hf,ha,hx,hds,hkk,hfun,rfl,rfl,rfl⟩|⟨f,args,ts,g,cap,k,ver,e,size,bytes,xs,ds,res,hop,hf,hkk,h0,hds,hfun,rfl,rfl,rfl⟩
 ·exact qc5 h (qhZ h.tok h.oldIn hk0 h.ev (fun v=>rfl) he hs) (qeU he) fun a' W' ι' _ hrel=>hK _ _ _ hrel
 ·refine qfA h hop hf hds (hc:=fun us hd=>hfun.2 W _ us hd) hfun.1 ?_
  rintro e W' ⟨v,rfl,hret,hbel⟩
  refine ⟨v,rfl, ?_⟩
  have hst:=h.tok.quiet h.oldIn (qaL hbel)
  exact hK _ _ ι (h.put (t:=st.t) hst (hret.toS (fun b hb _=>hb.elim id (qdW h.tok h.oldIn))))
 ·refine qfA h hop hf hds (hc:=fun us hd=>hfun.2 W _ us hd) hfun.1 ?_
  rintro e' W' ⟨v,vs,rfl,hown,hd,h1,hbel⟩
  refine ⟨v,rfl, ?_⟩
  have hbo:=qcJ _ _ hown
  have hst:qax old bs W ι (tat st.t) W' (at_ ι k0 v) (at_ (tat st.t) k0 (.row 0 e size bytes res)):=by
   refine h.tok.upd h.oldIn k0 _ _ (row:=none) (qaL hbel) (by simp) (fun b _ hb=> .inl ?_) (by intro c hc;rw [hk0] at hc;simp [B.ver] at hc) fun hkeep hok hv=> ?_
   ·exact (hown.lt b (by rw [<-hbo];exact hb)).1
   ·refine ⟨vs, ?_, ?_,h1,fun b hb ho=> ?_⟩
    ·rw [qam]
     exact ⟨hown.1,hown.2.imp id fun ⟨g',cap',cur,q1,q2,q3⟩=>⟨g',cap',cur,q1,Nat.zero_le _,q3⟩⟩
    ·refine hd.keep (fun _ _ _=>rfl) fun b hb _=>⟨hb.1.elim (fun h=>h.1) (fun h2=>(qdW h.tok h.oldIn h2).1),fun j hj hbj=> ?_⟩
     by_cases ej:j=k0
     ·subst ej;rw [qam] at hbj;exact hb.2 hbj
     ·rw [qa7 _ _ ej] at hj hbj
      rcases hb.1 with h2|h2
      ·exact h2.2 j hj hbj
      ·exact (qdW h.tok h.oldIn h2).2 j hj hbj
    ·rw [qam] at hb
     have:=(hown.lt b (by rw [<-hbo];exact hb)).1
     have:=h.oldIn b ho
     omega
  refine hK _ _ (at_ ι k0 v) (h.put (t:=qaH st.t k0 _) (by rw [qaD];exact hst) ?_)
  rw [qaD]
  exact .own (qaQ (by simp [qap,qam,B.ver])) fun _=>by rw [qam]
 ·exact qix h hop hf ha hx hds hkk hfun fun a' W' ι' _ hrel=>hK _ _ _ hrel
 ·exact qiI h hop hf hkk h0 hds hfun fun a' W' ι' _ hrel=>hK _ _ _ hrel
theorem Rel.congr{st st':St}{a:Act}{W:World}{ι:Nat->Value}(h:Rel old bs w0 ι st a W)(h1:st.env=st'.env)(h2: ∀k,tat st.t k=tat st'.t k):Rel old bs w0 ι st' a W:=by
 have e:tat st.t=tat st'.t:=funext h2
 exact ⟨h.defers,h.oldIn,h.fr,by rw [<-e];exact h.tok,by rw [<-e, <-h1];exact h.env,by rw [<-e];exact h.gh,by rw [<-e];exact h.lap,h.rnd⟩
def Closed(ops:Array Oper)(L:Nat->Bool):Prop:= ∀j y,ops[j]? =some y->L j=true-> ∀e∈y.after.toList,Region.binds .any e=true->L e.on=true
theorem qng(f:Edge->Nat): ∀(l:List Edge) (s i:Nat),(l.foldl (fun s e=>if Region.binds .any e then s|||f e else s) s).testBit i=true->
  s.testBit i=true\/ ∃e∈l,Region.binds .any e=true/\(f e).testBit i=true
 | [],s,i,h=> .inl h
 |e::l,s,i,h=>by
  rcases qng f l _ i h with h|⟨e',h1,h2⟩
  ·dsimp only at h
   split at h
   ·rename_i hb
    rw [Nat.testBit_or,Bool.or_eq_true] at h
    rcases h with h|h
    ·exact .inl h
    ·exact .inr ⟨e,by simp,hb,h⟩
   ·exact .inl h
  ·exact .inr ⟨e',by simp [h1],h2⟩
theorem qce{L:Nat->Bool}(hL:Closed ops L): ∀j i,((qyb ops.toList).getD j 0).testBit i=true->L j=true->L i=true:=by
 have key: ∀(l:List Oper) (acc:List Nat),(∀j i,(acc.getD j 0).testBit i=true->L j=true->L i=true)->(∀k o,l[k]? =some o->ops[acc.length+k]? =some o)->
   ∀j i,((l.foldl (fun acc o=>acc++ [o.after.toList.foldl (fun s e=>if Region.binds .any e then s|||(2^e.on|||acc.getD e.on 0) else s) 0]) acc).getD j 0).testBit i=true->L j=true->L i=true:=by
  intro l
  induction l with
  |nil=>intro acc h _;exact h
  |cons o l ih=>
   intro acc h ho
   rw [List.foldl_cons]
   refine ih _ ?_ ?_
   ·intro j i hb hj
    rw [List.getD_eq_getElem?_getD,List.getElem?_append] at hb
    split at hb
    ·exact h j i (by rw [List.getD_eq_getElem?_getD];exact hb) hj
    ·rename_i hlt
     by_cases e:j=acc.length
     ·subst e
      simp only [Nat.sub_self,List.getElem?_cons_zero,Option.getD_some] at hb
      rcases qng (fun e=>2^e.on|||acc.getD e.on 0) _ _ _ hb with h1|⟨e,h1,h2,h3⟩
      ·simp at h1
      ·have hon:=hL acc.length o (ho 0 o rfl) hj e h1 h2
       rw [Nat.testBit_or,Bool.or_eq_true] at h3
       rcases h3 with h3|h3
       ·rw [Nat.testBit_two_pow] at h3
        have:e.on=i:=by simpa using h3
        rw [<-this];exact hon
       ·exact h _ _ h3 hon
     ·rw [List.getElem?_eq_none (by simp;omega)] at hb
      simp at hb
   ·intro k o' hk
    have:=ho (k+1) o' (by simpa using hk)
    rw [List.length_append]
    simpa [Nat.add_assoc,Nat.add_comm 1 k] using this
 exact key ops.toList [] (by simp) (fun k o hk=>by simpa using hk)
theorem qhr{L L':Nat->Bool}: ∀(i:Nat) (es:List Ent) (st:St),(∀j,j<es.length->L (i+j)=L' (i+j))->stL L i es st=stL L' i es st
 |_, [],_,_=>rfl
 |i,e::es,st,h=>by
  rw [stL,stL]
  have h0:=h 0 (by simp)
  simp at h0
  rw [h0]
  exact qhr (i+1) es _ fun j hj=>by rw [show i+1+j=i+(j+1) from by omega];exact h (j+1) (by simpa using hj)
theorem qkk{ls:List qcN}(h:qgN ops ls=true){j:Nat}{y:Oper}(hy:ops[j]? =some y): ∀e∈y.after.toList,Region.binds .any e=true->e.on<j:=by
 unfold qgN at h
 have hj:j<ops.size:=(Array.getElem?_eq_some_iff.1 hy).1
 have:=List.all_eq_true.1 h j (by simpa using hj)
 simp only [hy,Bool.and_eq_true] at this
 intro e he hb
 have h2:=this.1
 rw [Array.all_eq_true'] at h2
 have:=h2 e (by simpa using he)
 simpa [hb] using this
theorem qfN{ls:List qcN}(h:qgN ops ls=true){i j:Nat}{x y:Oper}(hij:i<j)(hx:ops[i]? =some x)(hy:ops[j]? =some y)(hm:qbF ops x y (ls.getD i ⟨[],none⟩) (ls.getD j ⟨[],none⟩)=true):
  ((qyb ops.toList).getD j 0).testBit i=true:=by
 unfold qgN at h
 have hj:j<ops.size:=(Array.getElem?_eq_some_iff.1 hy).1
 have:=List.all_eq_true.1 h j (by simpa using hj)
 simp only [hy,Bool.and_eq_true] at this
 have:=List.all_eq_true.1 this.2 i (by simpa using hij)
 simp only [hx,hm] at this
 simpa using this
theorem qe6.updl{st:St}{e:Ent}(h:qe6 P mu ops st e):e.l.upd=e.upd.map (·.1):=by
 cases hr:e.run with
 |true=>
  rcases h.2.1 hr with ⟨_,e',_,_,_,h1,h2⟩|⟨_,_,_,_,_,_,_,_,_,_,_,_,h1,h2⟩|⟨_,_,_,_,_,_,_,_,_,_,_,_,_,_,_,h1,h2⟩|⟨_,_,_,_,_,_,_,_,_,_,_,_,_,_,_,_,_,_,_,_,_,_,h1,h2⟩|⟨_,_,_,_,_,_,_,_,_,_,_,_,_,_,_,_,_,_,_,_,h1,h2⟩
  ·rw [h2,h1]
  ·rw [h2,h1];rfl
  ·rw [h2,h1];rfl
  ·rw [h2,h1];rfl
  ·rw [h2,h1];rfl
 |false=>obtain ⟨_,h1,h2⟩:=h.2.2 hr;rw [h2,h1];rfl
theorem qh4{p q:Nat->Bool}{l:List Nat}(h: ∀j,j∈l->p j=true->q j=true){i:Nat}(hi:i∈l)(hq:q i=true)(hp:p i=false):l.countP p<l.countP q:=by
 induction l with
 |nil=>simp at hi
 |cons x l ih=>
  rw [List.countP_cons,List.countP_cons]
  have hmono:l.countP p<=l.countP q:=List.countP_mono_left fun j hj hpj=>h j (List.mem_cons_of_mem _ hj) hpj
  rcases List.mem_cons.1 hi with rfl|hi
  ·simp [hq,hp];omega
  ·have:=ih (fun j hj=>h j (List.mem_cons_of_mem _ hj)) hi
   have hx:=h x (List.mem_cons_self ..)
   by_cases hpx:p x=true
   ·simp [hpx,hx hpx];exact this
   ·have hpx:p x=false:=by simpa using hpx
    simp only [hpx,Bool.false_eq_true,if_false]
    split<;>omega
theorem qpM{es:List Ent}{st0:St}(hes:es.map (·.o)=ops.toList)(hok: ∀i e,es[i]? =some e->qe6 P mu ops (stL (fun j=>decide (j<i)) 0 es st0) e)(hsafe:qgN ops (es.map (·.l))=true)
  {Q:Exit->Act->World->Prop} (hQ: ∀a W ι,Rel old bs w0 ι (stL (fun _=>true) 0 es st0) a W->Q .normal a W):
  ∀(fuel:Nat) (listed:Array Bool) (a:Act) (W:World) (ι:Nat->Value),listed.size=ops.size->Closed ops (fun j=>listed.getD j false)->(List.range ops.size).countP (fun j=> !listed.getD j false)<=fuel->
   Rel old bs w0 ι (stL (fun j=>listed.getD j false) 0 es st0) a W->wpAnyIn (FW r) n P .any ops Q fuel listed a W:=by
 have hlen:es.length=ops.size:=by have:=congrArg List.length hes;simpa using this
 have hop: ∀(i:Nat) (e:Ent),es[i]? =some e->ops[i]? =some e.o:=by
  intro i e he
  have:(es.map (·.o))[i]? =ops.toList[i]? :=by rw [hes]
  rw [List.getElem?_map,he] at this
  simpa using this.symm
 --nothing is ready:all are listed
 have allIn: ∀(listed:Array Bool),listed.size=ops.size->Region.ready .any ops listed= [] -> ∀j,j<ops.size->listed.getD j false=true:=by
  intro listed hsz hr j
  induction j using Nat.strongRecOn with
  |ind j ih=>
   intro hj
   by_cases hl:listed.getD j false=true
   ·exact hl
   ·exfalso
    have hmem:j∈Region.ready .any ops listed:=by
     unfold Region.ready
     refine List.mem_filter.2 ⟨by simpa using hj, ?_⟩
     have h1:listed.getD j true=false:=by
      have hjs:j<listed.size:=by omega
      simp only [Array.getD_eq_getD_getElem?,Array.getElem?_eq_getElem hjs,Option.getD_some] at hl ⊢
      simpa using hl
     rw [Array.getElem?_eq_getElem hj]
     simp only [h1,Option.map_some,Option.getD_some,Bool.not_false,Bool.true_and]
     rw [Array.all_eq_true']
     intro e he
     cases hb:Region.binds .any e with
     |false=>rfl
     |true=>
      have:=qkk hsafe (Array.getElem?_eq_getElem hj) e (by simpa using he) hb
      simp [ih e.on this (by omega)]
    rw [hr] at hmem;simp at hmem
 have done: ∀(listed:Array Bool) (a:Act) (W:World) (ι:Nat->Value),(∀j,j<ops.size->listed.getD j false=true)->Rel old bs w0 ι (stL (fun j=>listed.getD j false) 0 es st0) a W->Q .normal a W:=by
  intro listed a W ι hall h
  refine hQ a W ι ?_
  rw [<-qhr 0 es st0 (L:=fun j=>listed.getD j false) (L':=fun _=>true) (fun j hj=>by simpa using hall j (by omega))]
  exact h
 intro fuel
 induction fuel with
 |zero=>
  intro listed a W ι hsz hcl hcnt h
  have hall: ∀j,j<ops.size->listed.getD j false=true:=by
   intro j hj
   have h0:(List.range ops.size).countP (fun j=> !listed.getD j false)=0:=by omega
   rw [List.countP_eq_zero] at h0
   have:=h0 j (by simpa using hj)
   simpa using this
  refine ⟨?_,done listed a W ι hall h⟩
  unfold Region.ready
  rw [List.filter_eq_nil_iff]
  intro j hj
  have hj:j<ops.size:=by simpa using hj
  have:=hall j hj
  have hjs:j<listed.size:=by omega
  simp only [Array.getD_eq_getD_getElem?,Array.getElem?_eq_getElem hjs,Option.getD_some] at this ⊢
  simp [this]
 |succ fuel ih=>
  intro listed a W ι hsz hcl hcnt h
  refine ⟨fun hr=>done listed a W ι (allIn listed hsz hr) h,fun i hi=> ?_⟩
  unfold Region.ready at hi
  obtain ⟨hi1,hi2⟩:=List.mem_filter.1 hi
  have hin:i<ops.size:=by simpa using hi1
  have his:i<listed.size:=by omega
  obtain ⟨e,he⟩: ∃e,es[i]? =some e:=⟨es[i],List.getElem?_eq_getElem (by omega)⟩
  have hoi:=hop i e he
  have hok_i:=hok i e he
  rw [hoi] at hi2
  simp only [Option.map_some,Option.getD_some,Bool.and_eq_true,Bool.not_eq_true'] at hi2
  obtain ⟨hi2,hi3⟩:=hi2
  rw [Array.all_eq_true'] at hi3
  have hLi:listed.getD i false=false:=by
   simp only [Array.getD_eq_getD_getElem?,Array.getElem?_eq_getElem his,Option.getD_some] at hi2 ⊢;exact hi2
  --the new list
  have hL': ∀j,(listed.setIfInBounds i true).getD j false=if j=i then true else listed.getD j false:=by
   intro j
   simp only [Array.getD_eq_getD_getElem?,Array.getElem?_setIfInBounds]
   by_cases e:i=j
   ·subst e;simp [his]
   ·rw [if_neg e,if_neg (fun e'=>e e'.symm)]
  have hcl':Closed ops (fun j=>(listed.setIfInBounds i true).getD j false):=by
   intro j y hy hj ed hed hb
   simp only [hL'] at hj ⊢
   by_cases ej:j=i
   ·subst ej
    have hyo:y=e.o:=by rw [hoi] at hy;simpa using hy.symm
    subst hyo
    have:=hi3 ed (by simpa using hed)
    simp only [hb,Bool.not_true,Bool.false_or] at this
    split
    ·rfl
    ·exact this
   ·rw [if_neg ej] at hj
    have:=hcl j y hy hj ed hed hb
    split
    ·rfl
    ·exact this
  --what meets it is in order
  have meets: ∀(j:Nat) (ej:Ent),es[j]? =some ej->(qbF ops ej.o e.o ej.l e.l=true\/qbF ops e.o ej.o e.l ej.l=true)->(j<i->qbF ops ej.o e.o ej.l e.l=true)->(i<j->qbF ops e.o ej.o e.l ej.l=true)->listed.getD j false=decide (j<i):=by
   intro j ej hej _ h1 h2
   have hlj:(es.map (·.l)).getD j ⟨[],none⟩=ej.l:=by simp [List.getD_eq_getElem?_getD,hej]
   have hli:(es.map (·.l)).getD i ⟨[],none⟩=e.l:=by simp [List.getD_eq_getElem?_getD,he]
   rcases Nat.lt_trichotomy j i with hlt|heq|hgt
   ·have hb:=qfN hsafe hlt (hop j ej hej) hoi (by rw [hlj,hli];exact h1 hlt)
    have:=qce hcl' i j hb (by simp [hL'])
    simp only [hL'] at this
    rw [if_neg (by omega)] at this
    simp [this,hlt]
   ·subst heq;simp [hLi]
   ·have hb:=qfN hsafe hgt hoi (hop j ej hej) (by rw [hlj,hli];exact h2 hgt)
    cases hlj2:listed.getD j false with
    |false=>simp;omega
    |true=>
     have:=qce hcl j i hb hlj2
     rw [hLi] at this;simp at this
  have look: ∀d,d∈e.o.looksAt ops-> ∀(j:Nat) (ej:Ent),es[j]? =some ej->ej.o.dst=some d->listed.getD j false=decide (j<i):=by
   intro d hd j ej hej hdst
   have m1:qbF ops ej.o e.o ej.l e.l=true:=by
    unfold qbF;simp [hdst,hd]
   have m2:qbF ops e.o ej.o e.l ej.l=true:=by
    unfold qbF;simp [hdst,hd]
   exact meets j ej hej (.inl m1) (fun _=>m1) (fun _=>m2)
  have same: ∀d,e.o.dst=some d-> ∀(j:Nat) (ej:Ent),es[j]? =some ej->ej.o.dst=some d->listed.getD j false=decide (j<i):=by
   intro d hd j ej hej hdst
   have m1:qbF ops ej.o e.o ej.l e.l=true:=by
    unfold qbF;simp [hdst,hd]
   have m2:qbF ops e.o ej.o e.l ej.l=true:=by
    unfold qbF;simp [hdst,hd]
   exact meets j ej hej (.inl m1) (fun _=>m1) (fun _=>m2)
  have tch: ∀k,(k∈e.l.tch\/e.l.upd=some k)-> ∀(j:Nat) (ej:Ent),es[j]? =some ej->ej.upd.map (·.1)=some k->listed.getD j false=decide (j<i):=by
   intro k hk j ej hej hu
   have hu':ej.l.upd=some k:=by rw [(hok j ej hej).updl];exact hu
   have m1:qbF ops ej.o e.o ej.l e.l=true:=by
    unfold qbF;rcases hk with hk|hk<;>simp [hu',hk]
   have m2:qbF ops e.o ej.o e.l ej.l=true:=by
    unfold qbF;rcases hk with hk|hk<;>simp [hu',hk]
   exact meets j ej hej (.inl m1) (fun _=>m1) (fun _=>m2)
  generalize hsL:stL (fun j=>listed.getD j false) 0 es st0=sL at h
  generalize hsi:stL (fun j=>decide (j<i)) 0 es st0=si at hok_i
  have hslot: ∀d,d∈e.o.looksAt ops->sL.env.getD d .top=si.env.getD d .top:=by
   intro d hd
   rw [<-hsL, <-hsi]
   exact qe9 0 es st0 st0 rfl rfl fun j ej hej hdst=>by simpa using look d hd j ej hej hdst
  have hσ: ∀x∈e.o.op.operands.toList,ev si.env x=ev sL.env x:=by
   intro x hx
   cases x with
   |tmp d=>
    refine (hslot d ?_).symm
    unfold Oper.looksAt
    exact List.mem_append_left _ (List.mem_filterMap.2 ⟨_,hx,rfl⟩)
   |_=>rfl
  have hτ: ∀k,(k∈e.l.tch\/e.l.upd=some k)->tat si.t k=tat sL.t k:=by
   intro k hk
   rw [<-hsL, <-hsi]
   exact (qeY 0 es st0 st0 rfl fun j ej hej hu=>by simpa using tch k hk j ej hej hu).symm
  --what comes of it
  have after: ∀a' W' ι',Rel old bs w0 ι' (qaK sL e) a' W'->wpAnyIn (FW r) n P .any ops Q fuel (listed.setIfInBounds i true) a' W':=by
   intro a' W' ι' hrel
   refine ih _ _ _ ι' (by simpa using hsz) hcl' ?_ ?_
   ·have hlt:(List.range ops.size).countP (fun j=> !(listed.setIfInBounds i true).getD j false)<(List.range ops.size).countP (fun j=> !listed.getD j false):=
     qh4 (p:=fun j=> !(listed.setIfInBounds i true).getD j false) (q:=fun j=> !listed.getD j false) (fun j _ h=>by
      have h:(!(listed.setIfInBounds i true).getD j false)=true:=h
      rw [hL'] at h
      split at h
      ·simp at h
      ·exact h) (i:=i) (by simpa using hin) (by show (!listed.getD i false)=true;rw [hLi];rfl) (by show (!(listed.setIfInBounds i true).getD i false)=false;rw [hL',if_pos rfl];rfl)
    omega
   ·have hstep: ∀st:St,(es.take (i+1)).foldl qaK st=qaK ((es.take i).foldl qaK st) e:=by
     intro st
     have hi':i<es.length:=by omega
     rw [List.take_succ_eq_append_getElem hi',List.foldl_append]
     have:es[i] =e:=(List.getElem?_eq_some_iff.1 he).2
     rw [this];rfl
    have hsi2:stL (fun j=>decide (j<i+1)) 0 es st0=qaK si e:=by
     have h1:=qh3 es 0 (i+1) st0
     have h2:=qh3 es 0 i st0
     simp only [Nat.zero_add] at h1 h2
     rw [h1,hstep, <-h2,hsi]
    have l1:(qaK sL e).env.length=st0.env.length:=by simp only [qaK,qcL];rw [<-hsL,qdE]
    have l2:(stL (fun j=>(listed.setIfInBounds i true).getD j false) 0 es st0).env.length=st0.env.length:=qdE _ _ _ _
    have l3:si.env.length=st0.env.length:=by rw [<-hsi,qdE]
    refine hrel.congr ?_ ?_
    ·apply List.ext_getElem?
     intro d
     have key:(qaK sL e).env.getD d .top=(stL (fun j=>(listed.setIfInBounds i true).getD j false) 0 es st0).env.getD d .top:=by
      by_cases hd:e.o.dst=some d
      ·have h1:(stL (fun j=>(listed.setIfInBounds i true).getD j false) 0 es st0).env.getD d .top=(stL (fun j=>decide (j<i+1)) 0 es st0).env.getD d .top:=
        qe9 0 es st0 st0 rfl rfl fun j ej hej hdst=>by
         have:=same d hd j ej hej hdst
         simp only [Nat.zero_add,hL',this]
         by_cases e1:j=i
         ·subst e1;simp
         ·rw [if_neg e1];apply decide_eq_decide.2;omega
       rw [h1,hsi2]
       simp only [qaK,hd,qfF]
       rw [l3, <-hsL,qdE]
      ·have h1:(stL (fun j=>(listed.setIfInBounds i true).getD j false) 0 es st0).env.getD d .top=sL.env.getD d .top:=by
        rw [<-hsL]
        exact qe9 0 es st0 st0 rfl rfl fun j ej hej hdst=>by
         simp only [Nat.zero_add,hL']
         by_cases e1:j=i
         ·subst e1;rw [he] at hej;simp at hej;subst hej;exact absurd hdst hd
         ·rw [if_neg e1]
       rw [h1]
       simp only [qaK,qma hd]
     rcases Nat.lt_or_ge d st0.env.length with hlt|hge
     ·rw [List.getElem?_eq_getElem (by rw [l1];exact hlt),List.getElem?_eq_getElem (by rw [l2];exact hlt)]
      rw [List.getD_eq_getElem?_getD,List.getD_eq_getElem?_getD,List.getElem?_eq_getElem (by rw [l1];exact hlt),List.getElem?_eq_getElem (by rw [l2];exact hlt)] at key
      simpa using key
     ·rw [List.getElem?_eq_none (by rw [l1];exact hge),List.getElem?_eq_none (by rw [l2];exact hge)]
    ·intro k
     by_cases hk:e.upd.map (·.1)=some k
     ·have h1:tat (stL (fun j=>(listed.setIfInBounds i true).getD j false) 0 es st0).t k=tat (stL (fun j=>decide (j<i+1)) 0 es st0).t k:=
       qeY 0 es st0 st0 rfl fun j ej hej hu=>by
        have:=tch k (.inr (by rw [hok_i.updl];exact hk)) j ej hej hu
        simp only [Nat.zero_add,hL',this]
        by_cases e1:j=i
        ·subst e1;simp
        ·rw [if_neg e1];apply decide_eq_decide.2;omega
      rw [h1,hsi2,qcy,qcy]
      cases hu:e.upd with
      |none=>rw [hu] at hk;simp at hk
      |some x=>rw [hu] at hk;simp at hk;simp only [qrB, <-hk,qam]
     ·have h1:tat (stL (fun j=>(listed.setIfInBounds i true).getD j false) 0 es st0).t k=tat sL.t k:=by
       rw [<-hsL]
       exact qeY 0 es st0 st0 rfl fun j ej hej hu=>by
        simp only [Nat.zero_add,hL']
        by_cases e1:j=i
        ·subst e1;rw [he] at hej;simp at hej;subst hej;exact absurd hu hk
        ·rw [if_neg e1]
      rw [h1,qcy]
      cases hu:e.upd with
      |none=>rfl
      |some x=>rw [hu] at hk;simp at hk;simp only [qrB];rw [qa7 _ _ (fun e=>hk e.symm)]
  show wpOpIn (FW r) n P ops Q i (wpAnyIn (FW r) n P .any ops Q fuel (listed.setIfInBounds i true)) a W
  unfold wpOpIn
  simp only [hoi]
  --the guard
  have hwant:Region.wanted e.o (yielded ops a.tmps)=e.run:=by
   have hg:=hok_i.1
   unfold qep at hg
   unfold Region.wanted
   split at hg
   ·rename_i hgd;rw [hgd,hg]
   ·rename_i j w hgd
    rcases hg with ⟨d,b,hd,hv,hrun⟩|⟨d,hd,hv,hrun⟩
    case inr=>
     rw [hgd]
     simp only
     have hmem:d∈e.o.looksAt ops:=by
      unfold Oper.looksAt
      refine List.mem_append_right _ ?_
      rw [hgd]
      simp [hd]
     have hs:=hslot d hmem
     have hsd:=h.ev (.tmp d)
     have hv2:ev sL.env (.tmp d)= .tup [] :=by simp only [ev] at hv ⊢;rw [hs];exact hv
     rw [hv2] at hsd
     rw [qcR hd (qke hsd),hrun];rfl
    rw [hgd]
    simp only
    have hmem:d∈e.o.looksAt ops:=by
     unfold Oper.looksAt
     refine List.mem_append_right _ ?_
     rw [hgd]
     simp [hd]
    have hs:=hslot d hmem
    have hsd:=h.ev (.tmp d)
    have hv2:ev sL.env (.tmp d)= .d (.v (.bool b)):=by simp only [ev] at hv ⊢;rw [hs];exact hv
    rw [hv2] at hsd
    have hval:=(qdg hsd).1
    have hy:yielded ops a.tmps j=some b:=by
     unfold yielded
     rw [hd]
     simp only [Option.bind_some]
     have:a.tmps.getD d undef= .bool b:=hval
     cases hq:a.tmps[d]? with
     |none=>rw [Array.getD_eq_getD_getElem?,hq] at this;simp [undef] at this
     |some q=>rw [Array.getD_eq_getD_getElem?,hq] at this;simp at this;rw [this]
    rw [hy,hrun];rfl
  rw [hwant]
  cases hrun:e.run with
  |true=>
   rw [if_pos rfl]
   have hf:=hok_i.2.1 hrun
   have hgone:(∃b,e.upd=some (si.t.length,b))->tat sL.t si.t.length= .gone:=by
    rintro ⟨b,hb⟩
    rw [<-hτ _ (.inr (by rw [hok_i.updl,hb];rfl))]
    exact qb7 _
   obtain ⟨k2,l',hk2,hf2⟩:=hf.local hσ (fun k hk=>hτ k (.inl hk)) (qb7 sL.t) hgone
   exact hf2.sound h hk2 fun a' W' ι' hrel=>after a' W' ι' hrel
  |false=>
   rw [if_neg (by simp)]
   refine ⟨fun f _=>FW.fn r f, ?_⟩
   obtain ⟨h1,h2,_⟩:=hok_i.2.2 hrun
   refine after _ _ ι ?_
   have:=h.put (dst:=e.o.dst) (s:= .tup []) (v:=undef) (t:=sL.t) (qax.refl h.tok) (qhU _ _ _ _)
   have e1:qaK sL e=⟨qfg sL.env e.o.dst (.tup []),sL.t⟩:=by simp only [qaK,h1,h2,qj9]
   rw [e1];exact this
end
end Go.Nv
end
section
namespace Go.Nv
open Go.RowKit
def Ex.toExit:Ex->Exit
 | .normal=> .normal
 | .exit id=> .exit id
 | .ret=> .ret
section
variable {P:Program} {old bs:Nat->Prop} {w0:Ctx} {mu:Tmp->Bool} {r:Option Nat} {n:Nat}
def qrW(old bs:Nat->Prop)(w0:Ctx)(K:Ex->St->Prop)(e:Exit)(a:Act)(W:World):Prop:=
 ∃x st ι,Ex.toExit x=e/\K x st/\Rel old bs w0 ι st a W
theorem least{p:Nat->Prop}(h: ∃m,p m): ∃m,p m/\ ∀k,p k->m<=k:=by
 obtain ⟨m,hm⟩:=h
 induction m using Nat.strongRecOn with
 |ind m ih=>
  by_cases hk: ∃k,k<m/\p k
  ·obtain ⟨k,h1,h2⟩:=hk;exact ih k h1 h2
  ·exact ⟨m,hm,fun k hk'=>Nat.le_of_not_lt fun hl=>hk ⟨k,hl,hk'⟩⟩
theorem Rel.drew{st:St}{a:Act}{W:World}{ι:Nat->Value}(h:Rel old bs w0 ι st a W):Rel old bs w0 ι st a {W with drawn:=W.drawn+1}:=by
 have hst:=h.tok.quiet (W':={W with drawn:=W.drawn+1}) h.oldIn ⟨rfl,rfl,rfl,Nat.le_refl _,fun _ _ _=>rfl⟩
 exact ⟨h.defers.step h.tok hst,h.oldIn.step hst.fr.size,h.fr.trans hst.fr,hst.tok,hst.sdenL h.env,h.ghStep hst,h.lapStep hst,h.rndStep hst⟩
theorem qti(hm:P.follows .mixedOrders=true)(c:Code): ∀(st:St) (K:Ex->St->Prop),vc P mu c st K-> ∀(a:Act) (W:World) (ι:Nat->Value),Rel old bs w0 ι st a W->c.wpIn (FW r) n P (qrW old bs w0 K) a W:=by
 induction c with
 |skip=>intro st K h a W ι hr;exact wpIn_skip ⟨.normal,st,ι,rfl,h,hr⟩
 |region id ops draw=>
  intro st K h a W ι hr
  cases draw with
  |false=>
   refine wpIn_region ?_
   have:=qls (r:=r) (n:=n) (Q:=qrW old bs w0 K) (Kp:=fun ls st'=>(false=true->Safe ops ls)/\K .normal st') (fun acc st' a' W' ι' hk hrel=>⟨.normal,st',ι',rfl,hk.2,hrel⟩)
    ops.toList 0 [] st a W ι (by simp) h hr
   rw [List.range_eq_range']
   simpa using this
  |true=>
   refine wpIn_region_any hm ?_
   obtain ⟨es,h1,h2,h3,h4⟩:=qe3 ops.toList [] st h
   have hok: ∀i e,es[i]? =some e->qe6 P mu ops (stL (fun j=>decide (j<i)) 0 es st) e:=by
    intro i e he
    have:=qh3 es 0 i st
    simp only [Nat.zero_add] at this
    rw [this];exact h2 i e he
   refine qpM h1 hok (by have:=h3 rfl;rw [List.nil_append] at this;exact this) (fun a W ι hrel=>⟨.normal,_,ι,rfl,h4,by rw [<-qjz 0];exact hrel⟩) ops.size _ a _ ι (by simp) ?_ ?_ ?_
   ·intro j y hy hj
    simp [Array.getD_eq_getD_getElem?,Array.getElem?_replicate] at hj
    split at hj<;>simp at hj
   ·exact Nat.le_trans (List.countP_le_length) (by simp)
   ·have e0:stL (fun j=>(Array.replicate ops.size false).getD j false) 0 es st=st:=qg3 0 es st fun j _=>by simp [Array.getD_eq_getD_getElem?,Array.getElem?_replicate];split<;>rfl
    rw [e0];exact hr.drew
 |seq x y ihx ihy=>
  intro st K h a W ι hr
  refine wpIn_seq (wpIn_mono (ihx st _ h a W ι hr) ?_)
  rintro e a' W' ⟨x',st',ι',rfl,hk,hrel⟩
  cases x' with
  |normal=>exact ihy st' K hk a' W' ι' hrel
  |exit id=>exact ⟨.exit id,st',ι',rfl,hk,hrel⟩
  |ret=>exact ⟨.ret,st',ι',rfl,hk,hrel⟩
 |cond o x y ihx ihy=>
  intro st K h a W ι hr
  unfold vc at h
  split at h
  ·rename_i z hz
   have hsd:=hr.ev o
   rw [hz] at hsd
   refine wpIn_cond (qdg hsd).1 ?_
   cases z with
   |true=>exact ihx st K (h.1 rfl) a W ι hr
   |false=>exact ihy st K (h.2 rfl) a W ι hr
  ·exact h.elim
 |block id x ih=>
  intro st K h a W ι hr
  refine wpIn_block (wpIn_mono (ih st _ h a W ι hr) ?_)
  rintro e a' W' ⟨x',st',ι',rfl,hk,hrel⟩
  cases x' with
  |normal=>exact ⟨.normal,st',ι',rfl,hk,hrel⟩
  |exit i=>
   simp only [Ex.toExit,Exit.inBlock]
   split
   ·rename_i hi;simp only [hi,if_true] at hk;exact ⟨.normal,st',ι',rfl,hk,hrel⟩
   ·rename_i hi;simp only [hi,if_false] at hk;exact ⟨.exit i,st',ι',rfl,hk,hrel⟩
  |ret=>exact ⟨.ret,st',ι',rfl,hk,hrel⟩
 |loop x ih=>
  intro st K h a W ι hr
  obtain ⟨m,hm⟩:=h
  classical
  let L:Nat->Act->World->Prop:=fun m a W=> ∃st ι,qwU (vc P mu x) m st K/\Rel old bs w0 ι st a W
  let I:Act->World->Prop:=fun a W=> ∃m,L m a W
  let μ:Act->World->Nat:=fun a W=>if h: ∃m,L m a W then Classical.choose (least h) else 0
  have hμ: ∀a W m,L m a W->μ a W<=m:=by
   intro a W m hL
   have hex: ∃m,L m a W:=⟨m,hL⟩
   show (if h: ∃m,L m a W then Classical.choose (least h) else 0)<=m
   rw [dif_pos hex]
   exact (Classical.choose_spec (least hex)).2 m hL
  have hμ1: ∀a W,I a W->L (μ a W) a W:=by
   intro a W hI
   show L (if h: ∃m,L m a W then Classical.choose (least h) else 0) a W
   rw [dif_pos hI]
   exact (Classical.choose_spec (least hI)).1
  refine wpIn_loop I μ ⟨m,st,ι,hm,hr⟩ ?_
  intro a1 W1 hI
  obtain ⟨st1,ι1,hl,hr1⟩:=hμ1 a1 W1 hI
  generalize hq:μ a1 W1=q at hl
  cases q with
  |zero=>exact hl.elim
  |succ q=>
   refine wpIn_mono (ih st1 _ hl a1 W1 ι1 hr1) ?_
   rintro e a' W' ⟨x',st',ι',rfl,hk,hrel⟩
   cases x' with
   |normal=>
    have hL:L q a' W':=⟨st',ι',hk,hrel⟩
    exact ⟨⟨q,hL⟩,by have:=hμ a' W' q hL;omega⟩
   |exit id=>exact ⟨.exit id,st',ι',rfl,hk,hrel⟩
   |ret=>exact ⟨.ret,st',ι',rfl,hk,hrel⟩
 |exit id=>intro st K h a W ι hr;exact wpIn_exit ⟨.exit id,st,ι,rfl,h,hr⟩
 |ret=>intro st K h a W ι hr;exact wpIn_ret ⟨.ret,st,ι,rfl,h,hr⟩
 |rangeFunc f ps as body _ _=>intro st K h;exact h.elim
 |scope body _=>intro st K h;exact h.elim
 |label l=>intro st K h;exact h.elim
 |goto l=>intro st K h;exact h.elim
 |refuse w=>intro st K h;exact h.elim
end
end Go.Nv
end
section
namespace Go.Nv
open Go.RowKit
theorem qDF{W:World}{l i:Nat}{o:Obj}(ho:W.heap[l]? =some o)(hc:isC o=false):W.cell? ⟨l,i,none⟩=none:=by
 unfold World.cell?
 simp only [ho]
 cases o<;>simp_all [isC]
structure qob (l:Nat) (W W':World):Prop where
 os:W'.os=W.os
 tape:W'.tape=W.tape
 output:W'.output=W.output
 size:W'.heap.size=W.heap.size
 was: ∃o,W.heap[l]? =some o/\isC o=false
 is: ∃o,W'.heap[l]? =some o/\isC o=false
 rest: ∀b,b≠l->W'.heap[b]? =W.heap[b]?
 lp: ∀rec:Loop,W.heap[l]? =some (Obj.loop rec)-> ∃rec',W'.heap[l]? =some (.loop rec')
theorem qob.putObj{W:World}{l:Nat}{o o':Obj}(ho:W.heap[l]? =some o)(hc:isC o=false)(hc':isC o'=false)(hlp: ∀rec:Loop,o= .loop rec-> ∃rec':Loop,o'= .loop rec'):qob l W (W.putObj l o'):=
 ⟨rfl,rfl,rfl,World.putObj_size,⟨o,ho,hc⟩,⟨o',World.putObj_heap_same (Array.getElem?_eq_some_iff.1 ho).1,hc'⟩,fun b hb=>World.putObj_heap_other hb,fun rec hr=>by rw [ho] at hr;cases hr;obtain ⟨r',rfl⟩:=hlp rec rfl;exact ⟨r',World.putObj_heap_same (Array.getElem?_eq_some_iff.1 ho).1⟩⟩
section
variable {W W':World} {l:Nat} {ι ι':Nat->Value} {vr:Nat->Option (Option Nat)} {ok:Nat->Prop} {old bs:Nat->Prop} {τ:Nat->B}
theorem qhE(hl: ∃o,W.heap[l]? =some o/\isC o=false){us:List Value}{b base:Nat}(hne:us≠ [])(hc: ∀(i:Nat) (u:Value),us[i]? =some u->W.cell? ⟨b,base+i,none⟩=some u):b≠l:=by
 rintro rfl
 obtain ⟨o,h1,h2⟩:=hl
 cases us with
 |nil=>exact hne rfl
 |cons u us=>have:=hc 0 u rfl;rw [qDF h1 h2] at this;cases this
theorem Den.noc(hl: ∃o,W.heap[l]? =some o/\isC o=false){d:D}{v:Value}(h:Den W ok d v):Den W (fun b=>ok b/\b≠l) d v:=by
 induction h with
 |v hx=>exact .v hx
 |a hl _ h1 ih=>exact .a hl ih h1
 |l0 hc hn=>exact .l0 hc hn
 |l hne hl' ho hc _ h0 h1 h2 ih=>exact .l hne hl' ⟨ho,qhE hl hne hc⟩ hc ih h0 h1 h2
 |p hne hl' ho hc _ h0 ih=>exact .p hne hl' ⟨ho,qhE hl hne hc⟩ hc ih h0
 |f hl _ ih=>exact .f hl ih
theorem qaG.noc(hl: ∃o,W.heap[l]? =some o/\isC o=false){s:S}{v:Value}(h:qaG W ι vr ok s v):qaG W ι vr (fun b=>ok b/\b≠l) s v:=by
 induction h with
 |d hx=>exact .d (hx.noc hl)
 |ptr h0 hp=>exact .ptr h0 hp
 |own h0 hp=>exact .own h0 hp
 |clo hl _ ih=>exact .clo hl ih
 |tup hl _ ih=>exact .tup hl ih
 |agg hl _ h1 ih=>exact .agg hl ih h1
 |top=>exact .top
theorem Den.turn(ht:qob l W W'){d:D}{v:Value}(h:Den W ok d v):Den W' ok d v:=
 (h.noc ht.was).keep (fun b hb _=>ht.rest b hb.2) (fun b hb _=>hb.1)
theorem qaM.turn(ht:qob l W W'){d:List D}{v:List Value}(h:qaM W ok d v):qaM W' ok d v:=⟨h.1,fun i c u hc hu=>(h.2 i c u hc hu).turn ht⟩
theorem qaG.turn(ht:qob l W W'){s:S}{v:Value}(h:qaG W ι vr ok s v):qaG W' ι vr ok s v:=
 (h.noc ht.was).keep (fun b hb _=>ht.rest b hb.2) (fun b hb _=>hb.1) (qaY.refl _ _)
theorem qao.turn(ht:qob l W W'){s:List S}{v:List Value}(h:qao W ι vr ok s v):qao W' ι vr ok s v:=⟨h.1,fun i c u hc hu=>(h.2 i c u hc hu).turn ht⟩
theorem TOk.turn(ht:qob l W W')(h:TOk W old bs ι τ):TOk W' old bs ι τ:=by
 refine ⟨h.bsn,fun k=> ?_,h.apart⟩
 obtain ⟨o,ho,hc⟩:=ht.was
 have hne: ∀b,(τ k).live=true->blk (ι k)=some b->b≠l:=fun b hl hb e=>h.nonpriv ho hc k hl (by rw [hb,e])
 have he:=h.ent k
 revert he hne
 cases hk:τ k with
 |box t cs=>
  rintro hne ⟨b,us,h1,h2,h3,h4,h5⟩
  exact ⟨b,us,h1,h2,(ht.rest b (hne b rfl (by rw [h1];rfl))).trans h3,h4.turn ht,h5⟩
 |row ver e size bytes xs=>
  rintro hne ⟨us,h1,h2,h4,h3⟩
  refine ⟨us,⟨h1.1, ?_⟩,h2.turn ht,h4,h3⟩
  rcases h1.2 with hn|⟨g,cap,cur,hv',hb,hgg,rest⟩
  ·exact .inl hn
  ·exact .inr ⟨g,cap,cur,hv',hb,(ht.rest g (hne g rfl (by rw [hv'];rfl))).trans hgg,rest⟩
 |dead=>intro _ _;trivial
 |gone=>intro _ _;trivial
 |ghost=>intro _ _;trivial
 |loop=>intro _ h;exact h
theorem qbO.turn(ht:qob l W W')(h:qbO old W):qbO old W':=h.step (by rw [ht.size];exact Nat.le_refl _)
theorem qob.fr(ht:qob l W W')(hl: ¬old l):Fr old W W':=⟨ht.os,ht.tape,ht.output,by rw [ht.size];exact Nat.le_refl _,fun b hb=>ht.rest b fun e=>by subst e;exact hl hb,fun b rec hb=>if e:b=l then by subst e;exact ht.lp rec hb else ⟨rec,(ht.rest b e).trans hb⟩⟩
theorem qd0.turn(ht:qob l W W'){g:Gh}{k:Nat}{e:B}(h:qd0 W old ι vr ok g k e)(hne:e.isLoop=true->g.l≠l):qd0 W' old ι vr ok g k e:=by
 cases e with
 |ghost cs=>exact qao.turn ht h
 |loop s pend ps asg body cs=>
  obtain ⟨h1,h2,h0,h3,h4⟩:=h
  exact ⟨h1,h2,h0,(ht.rest _ (hne rfl)).trans h3,h4.turn ht⟩
 |_=>trivial
theorem Rel.leave{w0:Ctx}{st:St}{n:Nat}{P:Program}{fn:Func}{R:Ending->World->Prop}: ∀(Ds:List Nat) (W:World) (a:Act),Rel old bs w0 ι st a W->a.defers=Ds.map (fun D=>{target:= .collected D,args:= #[] })->
  (∀W2,Rel old bs w0 ι st {a with defers:= [] } W2-> ∃v,(results fn a.tmps).run P W2= .ok v W2/\R (.returned v) W2)->
  LeavesInM (FW none) n P fn a.tmps R (Ds.map (fun D=>{target:= .collected D,args:= #[] })) .returning W
 | [],W,a,h,hd,hR=>by
  refine hR W ⟨⟨[],rfl,List.nodup_nil,by simp⟩,h.oldIn,h.fr,h.tok,h.env,h.gh,h.lap,h.rnd⟩
 |D::Ds,W,a,h,hd,hR=>by
  obtain ⟨Ds',h1,h2,h3⟩:=h.defers
  have e:Ds'=D::Ds:=by
   rw [hd] at h1
   have:=congrArg (List.map (fun d:Deferred=>match d.target with| .collected r=>r|_=>0)) h1
   simpa [List.map_map,Function.comp_def] using this.symm
  subst e
  obtain ⟨hD1,hD2⟩:=h3 D (by simp)
  have ht:qob D W (W.putObj D (.deferred none)):= .putObj hD2 rfl rfl (by simp)
  refine ⟨by simp,.inl ⟨D,_,rfl,run_takeDeferred hD2, ?_⟩⟩
  refine Rel.leave Ds (W.putObj D (.deferred none)) {a with defers:=Ds.map (fun D=>{target:= .collected D,args:= #[] })} ?_ rfl hR
  have hne: ∀k rec,W.heap[k]? =some (.loop rec)->k≠D:=fun k rec hk e=>by subst e;rw [hD2] at hk;cases hk
  refine ⟨⟨Ds,rfl,(List.nodup_cons.1 h2).2,fun E hE=> ?_⟩,h.oldIn.turn ht,h.fr.trans (ht.fr hD1),h.tok.turn ht,h.env.turn ht,fun k=> ?_,h.lap,fun l hl=> ?_⟩
  ·obtain ⟨e1,e2⟩:=h3 E (by simp [hE])
   exact ⟨e1,(ht.rest E fun e=>(List.nodup_cons.1 h2).1 (e▸hE)).trans e2⟩
  ·refine (h.gh k).turn ht fun hl=> ?_
   have:=h.gh k
   cases hk:tat st.t k with
   |loop s pend ps asg body cs=>rw [hk] at this;exact hne _ _ this.2.2.2.1
   |_=>rw [hk] at hl;simp [B.isLoop] at hl
  ·obtain ⟨e1,rec,e2⟩:=h.rnd l hl
   exact ⟨e1,rec,(ht.rest l (hne _ _ e2)).trans e2⟩
theorem Rel.out{w0:Ctx}{st:St}{n:Nat}{P:Program}{fn:Func}{R:Ending->World->Prop}{W:World}{a:Act}(h:Rel old bs w0 ι st a W)
  (hR: ∀W2,Rel old bs w0 ι st {a with defers:= [] } W2-> ∃v,(results fn a.tmps).run P W2= .ok v W2/\R (.returned v) W2):
  LeavesInM (FW none) n P fn a.tmps R a.defers .returning W:=by
 obtain ⟨Ds,h1,_⟩:=id h.defers
 have:=h.leave Ds W a h1 hR (n:=n)
 rwa [h1]
theorem qkF{w:World}{ok:Nat->Prop}{args:List D}{us:List Value}{n:Nat}(hd:qaM w ok args us){gs:Nat->Gh}:
  Rel (fun b=>b<w.heap.size) (fun b=>ok b\/w.heap.size<=b) ⟨w,gs,none⟩ (fun _=>undef) ⟨args.map .d++List.replicate (n-args.length) .top, []⟩ {tmps:=us.toArray++Array.replicate (n-us.toArray.size) undef,defers:= [] } w:=by
 refine ⟨⟨[],rfl,List.nodup_nil,by simp⟩,fun b hb=>hb,Fr.refl _ _,⟨fun b hb=> .inr (Nat.le_of_not_lt hb),fun k=> ?_,fun j k b hj=> ?_⟩, ?_,fun k=> ?_,fun j k hj=> ?_,fun l hl=> ?_⟩
 ·show qiu _ _ _ _ _ _ (tat [] k);simp [tat,qiu]
 ·simp [tat,B.live] at hj
 ·have h1:qao w (fun _=>undef) (qap (tat [])) (okT (fun b=>ok b\/w.heap.size<=b) (tat []) (fun _=>undef)) (args.map .d) us:=
   qao.ofDen (hd.keep (fun _ _ _=>rfl) fun b hb _=>⟨.inl hb,fun k hk=>by simp [tat,B.live] at hk⟩)
  have h2:qao w (fun _=>undef) (qap (tat [])) (okT (fun b=>ok b\/w.heap.size<=b) (tat []) (fun _=>undef)) (List.replicate (n-args.length) .top) (List.replicate (n-us.length) undef):=by
   refine ⟨by simp [hd.1],fun i c u hc hu=> ?_⟩
   rw [List.getElem?_replicate] at hc
   split at hc
   ·simp at hc;subst hc;exact .top
   ·simp at hc
  simpa using h1.append h2
 ·show qd0 _ _ _ _ _ _ _ (tat [] k);simp [tat,qd0]
 ·simp [tat,B.isLoop] at hj
 ·simp at hl
end
end Go.Nv
end
section
namespace Go.Nv
open Go.RowKit
def qe5(t:List B):Nat->S->Option D
 |_,.d x=>some x
 |_,.own k v=>match tat t k with
  | .row v' _ size _ xs=>if v=v'/\0<size then some (.l xs) else none
  |_=>none
 |0,_=>none
 |n+1,.agg cs=>(cs.mapM (qe5 t n)).map .a
 |n+1,.clo g cs=>(cs.mapM (qe5 t n)).map (.f g)
 |n+1,.ptr k ver off=>match tat t k with
  | .box _ cs=>if ver=0/\cs≠ [] then (cs.mapM (qe5 t n)).map (.p off) else none
  |_=>none
 |_,_=>none
section
variable {P:Program} {old bs:Nat->Prop} {W:World} {ι:Nat->Value} {t:List B}
theorem qg2{f:S->Option D}(hf: ∀s d v,f s=some d->qaG W ι (qap (tat t)) (okT bs (tat t) ι) s v->Den W bs d v):
  ∀{cs:List S} {ds:List D} {us:List Value},cs.mapM f=some ds->qao W ι (qap (tat t)) (okT bs (tat t) ι) cs us->qaM W bs ds us:=by
 intro cs
 induction cs with
 |nil=>intro ds us h hd;simp at h;subst h;rw [hd.nil_inv];exact qaM.nil _ _
 |cons c cs ih=>
  intro ds us h hd
  obtain ⟨u,us',rfl,h1,h2⟩:=hd.cons_inv
  rw [List.mapM_cons] at h
  cases hc:f c with
  |none=>simp [hc] at h
  |some d=>
   cases hr:cs.mapM f with
   |none=>simp [hc,hr] at h
   |some ds'=>
    simp [hc,hr] at h
    subst h
    exact qaM.cons (hf c d u hc h1) (ih hr h2)
theorem qgW(hT:TOk W old bs ι (tat t)): ∀(n:Nat) (s:S) (d:D) (v:Value),qe5 t n s=some d->qaG W ι (qap (tat t)) (okT bs (tat t) ι) s v->Den W bs d v:=by
 have hown: ∀(n:Nat) k ver d v,qe5 t n (.own k ver)=some d->qaG W ι (qap (tat t)) (okT bs (tat t) ι) (.own k ver) v->Den W bs d v:=by
  intro n k ver d v h hs
  have h:(match tat t k with
   | .row v' _ size _ xs=>if ver=v'/\0<size then some (D.l xs) else none
   |_=>none)=some d:=by cases n<;>simpa [qe5] using h
  split at h
  ·rename_i v' e size bytes xs hk
   split at h
   ·rename_i hc
    obtain ⟨rfl,h0⟩:=hc
    simp at h;subst h
    have hv:=qcw hs (qbl hk)
    subst hv
    have he:=hT.ent k
    rw [hk] at he
    obtain ⟨us,ho,hd,h1,hnew⟩:=he
    rcases ho with ⟨hul,⟨hn,hz⟩|⟨g,cap,cur,hi,hb0,hh,hcap,hmax,hcs,htake⟩⟩
    ·have:xs= [] :=List.eq_nil_of_length_eq_zero hz
     subst this
     rw [hn];exact .l0 (Nat.zero_le _) (fun _=>rfl)
    ·rw [hi]
     by_cases hx:xs= []
     ·subst hx;exact .l0 hmax (by simp)
     ·have hne:us≠ [] :=by
       intro hn
       rw [hn] at hul
       have h3:0<xs.length*size:=Nat.mul_pos (List.length_pos_iff.2 hx) h0
       simp at hul;omega
      have hrow:=qfR (e:=e) (size:=size) (n:=xs.length) (v:=ι k) (us:=us) ⟨hul,.inr ⟨g,cap,cur,hi,hb0,hh,hcap,hmax,hcs,htake⟩⟩ (b:=g) (by rw [hi];rfl)
      have hd':=hd.keep (W':=W) (ok':=bs) (fun _ _ _=>rfl) (fun b hb _=>hb.1)
      exact .l hne hd'.1 (hT.bsn _ (hnew g (by rw [hi];rfl))) hrow hd'.2 h1 hcap hmax
   ·simp at h
  ·simp at h
 intro n
 induction n with
 |zero=>
  intro s d v h hs
  cases s with
  |d x=>simp [qe5] at h;subst h;cases hs with|d h=>exact h.mono fun b hb=>hb.1
  |own k ver=>exact hown 0 k ver d v h hs
  |_=>simp [qe5] at h
 |succ n ih=>
  intro s d v h hs
  cases s with
  |d x=>simp [qe5] at h;subst h;cases hs with|d h=>exact h.mono fun b hb=>hb.1
  |own k ver=>exact hown (n+1) k ver d v h hs
  |agg cs=>
   simp only [qe5] at h
   obtain ⟨ds,h1,rfl⟩: ∃ds,cs.mapM (qe5 t n)=some ds/\D.a ds=d:=by simpa using h
   obtain ⟨us,rfl,h2,h3⟩:=qkV hs
   have:=qg2 (fun s d v=>ih s d v) h1 h2
   exact .a this.1 this.2 h3
  |clo g cs=>
   simp only [qe5] at h
   obtain ⟨ds,h1,rfl⟩: ∃ds,cs.mapM (qe5 t n)=some ds/\D.f g ds=d:=by simpa using h
   cases hs with
   |clo hl hh=>
    have:=qg2 (fun s d v=>ih s d v) h1 ⟨hl,hh⟩
    exact .f this.1 this.2
  |ptr k ver off=>
   simp only [qe5] at h
   split at h
   ·rename_i bt cs hk
    split at h
    ·rename_i hc
     obtain ⟨rfl,hne⟩:=hc
     obtain ⟨ds,h1,rfl⟩: ∃ds,cs.mapM (qe5 t n)=some ds/\D.p off ds=d:=by simpa using h
     obtain ⟨b,hb,rfl⟩:=qc1 hs (by simp [qap,hk,B.ver])
     have he:=hT.ent k
     rw [hk] at he
     obtain ⟨b',us,hi,hnew,hh,hd,h1'⟩:=he
     rw [hi] at hb;simp [blk] at hb;subst hb
     have hd':=qg2 (fun s d v=>ih s d v) h1 hd
     have:=Den.p (off:=off) (base:=0) (W:=W) (ok:=bs) (b:=b') (us:=us) (cs:=ds) (by
      intro hn;rw [hn] at hd;exact hne (List.eq_nil_of_length_eq_zero hd.1.symm)) hd'.1 (hT.bsn _ hnew) (by have:=qef hh;exact this) hd'.2 h1'
     simpa using this
    ·simp at h
   ·simp at h
  |tup cs=>simp [qe5] at h
  |top=>simp [qe5] at h
def qhF(P:Program)(st:St):ResultVar->Option D
 | .tmp k=>qe5 st.t 4 (st.env.getD k .top)
 | .cell k ty=>if (P.underlying ty).isSome=true then match st.env.getD k .top with
  | .ptr b ver off=>match tat st.t b with
   | .box _ cs=>if ver=0 then (qfT P ty cs off).bind (qe5 st.t 4) else none
   |_=>none
  | .d (.p off cs)=>qdh P ty cs off
  |_=>none
  else none
theorem qk2{t:TypeId}(ht:(P.underlying t).isSome=true){b base off:Nat}{cs:List D}{us:List Value}{ok:Nat->Prop}
  (hc:Cells W b base us) (hd:qaM W ok cs us) (h1: ∀(i:Nat) (u:Value),us[i]? =some u->u.oneCell'=true) {d:D} (hp:qdh P t cs off=some d):
  ∃v,(loadVar t ⟨b,base+off,none⟩).run P W= .ok v W/\Den W ok d v:=by
 obtain ⟨dd,hdd⟩:=Option.isSome_iff_exists.1 ht
 rcases qeE hp with ⟨ha,hl,rfl⟩|⟨ha,hg⟩
 ·have hn:((us.drop off).take (P.cellsOf t)).length=P.cellsOf t:=by simp [hd.1];omega
  refine ⟨_,qcX t hdd b (base+off) _ (hc.part off (P.cellsOf t)) (by rw [if_pos ha,hn]), ?_⟩
  rw [if_pos ha]
  have:=(hd.drop off).take (P.cellsOf t)
  exact Den.a this.1 this.2 (qfa h1 _ _)
 ·obtain ⟨u,hu,hdu⟩:=hd.at hg
  have hlt:off<us.length:=(List.getElem?_eq_some_iff.1 hu).1
  have e:(us.drop off).take 1= [u] :=by
   rw [List.drop_eq_getElem_cons hlt]
   simp [(List.getElem?_eq_some_iff.1 hu).2]
  refine ⟨_,qcX t hdd b (base+off) _ (hc.part off 1) (by simp [ha,e]), ?_⟩
  simp [ha,e,hdu]
theorem qiA{t:TypeId}(ht:(P.underlying t).isSome=true){b off:Nat}{cs:List S}{us:List Value}{vr:Nat->Option (Option Nat)}{ok:Nat->Prop}
  (hc:Cells W b 0 us) (hd:qao W ι vr ok cs us) (h1: ∀(i:Nat) (u:Value),us[i]? =some u->u.oneCell'=true) {s:S} (hp:qfT P t cs off=some s):
  ∃v,(loadVar t ⟨b,off,none⟩).run P W= .ok v W/\qaG W ι vr ok s v:=by
 obtain ⟨dd,hdd⟩:=Option.isSome_iff_exists.1 ht
 have e0:(⟨b,off,none⟩:Addr)=⟨b,0+off,none⟩:=by simp
 rw [e0]
 rcases qga hp with ⟨ha,hl,rfl⟩|⟨ha,hg⟩
 ·have hn:((us.drop off).take (P.cellsOf t)).length=P.cellsOf t:=by simp [hd.1];omega
  refine ⟨_,qcX t hdd b (0+off) _ (hc.part off (P.cellsOf t)) (by rw [if_pos ha,hn]), ?_⟩
  rw [if_pos ha]
  exact qaG.ofAgg ((hd.drop off).take _) (qfa h1 _ _)
 ·obtain ⟨u,hu,hdu⟩:=hd.at hg
  have hlt:off<us.length:=(List.getElem?_eq_some_iff.1 hu).1
  have e:(us.drop off).take 1= [u] :=by
   rw [List.drop_eq_getElem_cons hlt]
   simp [(List.getElem?_eq_some_iff.1 hu).2]
  refine ⟨_,qcX t hdd b (0+off) _ (hc.part off 1) (by simp [ha,e]), ?_⟩
  simp [ha,e,hdu]
def qbK(tmps:Array Value):ResultVar->Sem Value
 | .tmp t=>pure (tmps.getD t undef)
 | .cell a t=>do loadVar t (<-asAddr (tmps.getD a undef))
theorem res_one{w0:Ctx}{st:St}{a:Act}(h:Rel old bs w0 ι st a W){x:ResultVar}{d:D}(hx:qhF P st x=some d):
  ∃v,(qbK a.tmps x).run P W= .ok v W/\Den W bs d v:=by
 cases x with
 |tmp k=>
  have hs:=h.ev (.tmp k)
  exact ⟨a.tmps.getD k undef,rfl,qgW h.tok 4 _ _ _ hx hs⟩
 |cell k ty=>
  have hs:=h.ev (.tmp k)
  simp only [qhF] at hx
  simp only [ev,Act.eval] at hs
  split at hx
  ·rename_i ht
   split at hx
   ·rename_i b ver off hb
    rw [hb] at hs
    split at hx
    ·rename_i bt cs hk
     split at hx
     ·rename_i hver
      subst hver
      obtain ⟨s,hp,hd⟩: ∃s,qfT P ty cs off=some s/\qe5 st.t 4 s=some d:=by simpa [Option.bind_eq_some_iff] using hx
      obtain ⟨b',hb',hv⟩:=qc1 hs (by simp [qap,hk,B.ver])
      have he:=h.tok.ent b
      rw [hk] at he
      obtain ⟨b2,us,hi,_,hh,hsd,h1⟩:=he
      rw [hi] at hb';simp [blk] at hb';subst hb'
      obtain ⟨v,hr,hsv⟩:=qiA (P:=P) ht (qef hh) hsd h1 hp
      exact ⟨v,by simp [qbK,hv,asAddr,hr],qgW h.tok 4 _ _ _ hd hsv⟩
     ·simp at hx
    ·simp at hx
   ·rename_i off cs hb
    rw [hb] at hs
    obtain ⟨b,base,us,hv,_,hok,hc,hd,h1⟩:=qx5 hs
    obtain ⟨v,hr,hdv⟩:=qk2 (P:=P) ht hc hd h1 hx
    exact ⟨v,by simp [qbK,hv,asAddr,hr],hdv.mono fun b hb=>hb.1⟩
   ·simp at hx
  ·simp at hx
theorem qmD{w0:Ctx}{st:St}{a:Act}(h:Rel old bs w0 ι st a W): ∀{xs:List ResultVar} {ds:List D},xs.mapM (qhF P st)=some ds-> ∃vs,(xs.mapM (qbK a.tmps)).run P W= .ok vs W/\qaM W bs ds vs
 | [],ds,hx=>by simp at hx;subst hx;exact ⟨[],by simp,qaM.nil _ _⟩
 |x::xs,ds,hx=>by
  rw [List.mapM_cons] at hx
  cases h1:qhF P st x with
  |none=>simp [h1] at hx
  |some d=>
   cases h2:xs.mapM (qhF P st) with
   |none=>simp [h1,h2] at hx
   |some ds'=>
    simp [h1,h2] at hx
    subst hx
    obtain ⟨v,hv,hd⟩:=res_one h h1
    obtain ⟨vs,hvs,hds⟩:=qmD h h2
    exact ⟨v::vs,by rw [List.mapM_cons];simp [hv,hvs],qaM.cons hd hds⟩
theorem qmh{w0:Ctx}{st:St}{a:Act}(h:Rel old bs w0 ι st a W){fn:Func}{ds:List D}(hx:fn.results.toList.mapM (qhF P st)=some ds):
  ∃v,(results fn a.tmps).run P W= .ok v W/\qec W bs ds v:=by
 obtain ⟨vs,hvs,hd⟩:=qmD h hx
 have e:results fn a.tmps=(do let vs<-fn.results.mapM (qbK a.tmps);pure (if h:vs.size=1 then vs[0] else .tuple vs)):=rfl
 have e2:fn.results.mapM (qbK a.tmps)=List.toArray<$>fn.results.toList.mapM (qbK a.tmps):=by
  rw [Array.mapM_eq_mapM_toList]
 refine ⟨_,by rw [e,e2];simp [hvs];rfl, ?_⟩
 match ds,vs,hd with
 | [d], [v],hd=>exact hd.2 0 d v rfl rfl
 | [], [],hd=>exact ⟨[],by simp,hd⟩
 |d::d'::ds,v::v'::vs,hd=>exact ⟨v::v'::vs,by simp,hd⟩
 | [],v::vs,hd=>have:=hd.1;simp at this
 |d::ds, [],hd=>have:=hd.1;simp at this
 | [d],v::v'::vs,hd=>have:=hd.1;simp at this
 |d::d'::ds, [v],hd=>have:=hd.1;simp at this
end
def qjm(args:List D)(ntmps:Nat):St:=⟨args.map .d++List.replicate (ntmps-args.length) .top, []⟩
end Go.Nv
end
section
namespace Go.Nv
open Go.RowKit
section
variable {P:Program} {mu:Tmp->Bool} {ops:Array Oper} {rest:List Oper} {acc:List qcN} {env env':List S} {t t':List B}
variable {st:St} {K:Ex->St->Prop} {a b c:Code}
end
end Go.Nv
end
