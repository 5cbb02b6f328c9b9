import Derived.Test.YtlmmifgminkdkaaGreatNwN4
set_option linter.all false
set_option maxRecDepth 100000
section
namespace Go.Nv
open Go.RowKit
def qh2:D->Bool
 | .v _=>true
 | .a cs=>go cs
 | .l [] =>true
 |_=>false
where go:List D->Bool
 | [] =>true
 |c::cs=>qh2 c&&go cs
def qgd(ds:List D):Bool:=ds.all qh2
theorem qrr{cs:List D}(h:qh2.go cs=true): ∀c∈cs,qh2 c=true:=by
 induction cs with
 |nil=>simp
 |cons c cs ih=>
  simp only [qh2.go,Bool.and_eq_true] at h
  intro x hx
  rcases List.mem_cons.1 hx with rfl|hx
  ·exact h.1
  ·exact ih h.2 x hx
theorem Den.free{W W':World}{ok ok':Nat->Prop}{d:D}{v:Value}(h:Den W ok d v)(hn:qh2 d=true):Den W' ok' d v:=by
 induction h with
 |v hx=>exact .v hx
 | @a cs us hl _ h1 ih=>
  have hn':=qrr (cs:=cs) (by simpa [qh2] using hn)
  exact .a hl (fun i c u hc hu=>ih i c u hc hu (hn' c (List.mem_of_getElem? hc))) h1
 |l0 hc h0=>exact .l0 hc h0
 | @l xs b off cap us hne hl ho hc hd h0 h1 h2 ih=>
  cases xs with
  |nil=>simp [flat] at hl;exact absurd hl hne
  |cons x xs=>simp [qh2] at hn
 |p hne hl ho hc hd h0 ih=>simp [qh2] at hn
 |f hl _ ih=>simp [qh2] at hn
theorem qaN.free{W W':World}{ok ok':Nat->Prop}{ds:List D}{us:List Value}(h:qaN W ok ds us)(hn:qgd ds=true):qaN W' ok' ds us:=
 ⟨h.1,fun i c u hc hu=>(h.2 i c u hc hu).free (List.all_eq_true.1 hn c (List.mem_of_getElem? hc))⟩
theorem qed.free{W W':World}{ok ok':Nat->Prop}{ds:List D}{v:Value}(h:qed W ok ds v)(hn:qgd ds=true):qed W' ok' ds v:=by
 unfold qed at*
 split at h
 ·exact h.free (by simpa [qgd] using hn)
 ·obtain ⟨us,h1,h2⟩:=h
  exact ⟨us,h1,h2.free hn⟩
section
variable {P:Program} {st:St} {K:St->Prop} {f:Operand} {args:List Operand} {dst:Option Tmp} {g:FuncId} {cap ds res:List D} {o:Oper}
theorem qeG{mu:Tmp->Bool}(h:qb2 P mu o st fun _ st'=>K st'):OkOp P o st K:=fun n old bs w0 a W ι Kw Q hr hK=>
 qdV hr h fun l st' a' W' ι' hk _ hrel=>hK st' a' W' ι' hk hrel
theorem qaa(hf:evx st.env f= .d (.f g cap))(hd:qdp (args.map (evx st.env))=some ds)(h:Fun P g (ds++cap) res)(hk:K ⟨qdQ st.env dst (qh5 res),st.t⟩):qbH P f args dst st K:=by
 unfold qbH
 rintro o ⟨ts,ho⟩ rfl
 rw [qbc] at hf hd
 rw [qbq] at hk
 refine qeG (mu:=fun _=>false) ?_
 unfold qb2
 simp only [ho,hf,hd]
 exact .inl ⟨res,h,hk⟩
theorem qiE(hf:evx st.env f= .d (.f g cap))(hd:qdp (args.map (evx st.env))=some ds){e:TypeId}{size bytes:Nat}(h:qty P g (ds++cap) e size res)(hk:K ⟨qdQ st.env dst (.own (qb8 st.t) 0),qaW st.t (qb8 st.t) (.row 0 e size bytes res)⟩):qbH P f args dst st K:=by
 unfold qbH
 rintro o ⟨ts,ho⟩ rfl
 rw [qbc] at hf hd
 rw [qbq,qb0,qaL] at hk
 refine qeG (mu:=fun _=>false) ?_
 unfold qb2
 simp only [ho,hf,hd]
 exact .inr ⟨e,size,bytes,res,h,hk⟩
theorem qqI{rest:List S}{xs ys:List D}{k ver:Nat}{e:TypeId}{size bytes:Nat}(hf:evx st.env f= .d (.f g []))(hs:args.map (evx st.env)= .own k ver::rest)(hd:qdp rest=some ds)(ht:qcv st.t k= .row ver e size bytes xs)(h:qjN P g e size ds xs ys)
  (hk:K ⟨qdQ st.env dst (.own k (ver+1)),qpf st.t (some (k,.row (ver+1) e size bytes ys))⟩):qbH P f args dst st K:=by
 unfold qbH
 rintro o ⟨ts,ho⟩ rfl
 rw [qbc] at hf hs
 rw [qa4] at ht
 rw [qbq,qeK] at hk
 refine qeG (mu:=fun _=>false) ?_
 have hn:qdp (args.map (ev st.env))=none:=by rw [hs];rfl
 unfold qb2
 simp only [ho,hf,hn]
 cases hal:args with
 |nil=>rw [hal] at hs;simp at hs
 |cons x rst=>
  rw [hal,List.map_cons] at hs
  obtain ⟨e1,e2⟩:=List.cons.inj hs
  exact .inl ⟨x,rst,ds,k,ver,e,size,bytes,xs,ys,trivial,rfl,e1,by rw [e2];exact hd,ht,h,hk⟩
def qyz(t:List B)(ss:List S):Option (List D):=ss.mapM (qe3 t 4)
def qwv(f:S->Option D):List S->Option (List D)
 | [] =>some []
 |c::cs=>match f c with|some d=>(match qwv f cs with|some ds=>some (d::ds)|none=>none)|none=>none
def qAE(t:List B)(k v:Nat):Option D:=match qcv t k with
  | .row v' _ size _ xs=>match Nat.beq v v' with|true=>(match Nat.blt 0 size with|true=>some (.l xs)|false=>none)|false=>none
  |_=>none
def qkv(t:List B):Nat->S->Option D
 |0,s=>match s with
  | .d x=>some x
  | .own k v=>qAE t k v
  |_=>none
 |n+1,s=>match s with
  | .d x=>some x
  | .own k v=>qAE t k v
  | .agg cs=>match qwv (qkv t n) cs with|some ds=>some (.a ds)|none=>none
  | .clo g cs=>match qwv (qkv t n) cs with|some ds=>some (.f g ds)|none=>none
  | .ptr k ver off=>match qcv t k with
   | .box _ (c::cs)=>match Nat.beq ver 0 with|true=>(match qwv (qkv t n) (c::cs) with|some ds=>some (.p off ds)|none=>none)|false=>none
   |_=>none
  |_=>none
def qpR(t:List B):List S->Option (List D)
 | [] =>some []
 |s::ss=>match qkv t 4 s with|some d=>(match qpR t ss with|some ds=>some (d::ds)|none=>none)|none=>none
theorem qiS(t:List B): ∀(n:Nat) (s:S) (d:D),qkv t n s=some d->qe3 t n s=some d:=by
 have hown: ∀n k v d,qAE t k v=some d->qe3 t n (.own k v)=some d:=by
  intro n k v d h
  have e:qe3 t n (.own k v)=match tat t k with
   | .row v' _ size _ xs=>if v=v'/\0<size then some (.l xs) else none
   |_=>none:=by cases n<;>rfl
  rw [e]
  unfold qAE at h
  rw [qa4] at h
  split at h
  ·rename_i v' e size bytes xs hk
   split at h
   ·rename_i h1
    split at h
    ·rename_i h2
     rw [if_pos ⟨Nat.eq_of_beq_eq_true h1,qdn h2⟩];exact h
    ·simp at h
   ·simp at h
  ·simp at h
 intro n
 induction n with
 |zero=>
  intro s d h
  cases s with
  |d x=>simpa [qkv,qe3] using h
  |own k v=>exact hown _ _ _ _ h
  |_=>simp [qkv] at h
 |succ n ih=>
  have hgo: ∀cs ds,qwv (qkv t n) cs=some ds->cs.mapM (qe3 t n)=some ds:=by
   intro cs
   induction cs with
   |nil=>intro ds h;simpa [qwv] using h
   |cons c cs ihc=>
    intro ds h
    unfold qwv at h
    split at h
    ·rename_i d hd
     split at h
     ·rename_i ds' hds
      simp at h;subst h
      rw [List.mapM_cons,ih _ _ hd,ihc _ hds];rfl
     ·simp at h
    ·simp at h
  intro s d h
  cases s with
  |d x=>simpa [qkv,qe3] using h
  |own k v=>exact hown _ _ _ _ h
  |agg cs=>
   simp only [qkv] at h;unfold qe3
   split at h
   ·rename_i ds hds;simp at h;subst h;rw [hgo _ _ hds];rfl
   ·simp at h
  |clo g cs=>
   simp only [qkv] at h;unfold qe3
   split at h
   ·rename_i ds hds;simp at h;subst h;rw [hgo _ _ hds];rfl
   ·simp at h
  |ptr k ver off=>
   simp only [qkv] at h;unfold qe3
   rw [qa4] at h
   split at h
   ·rename_i e c cs hk
    rw [hk]
    split at h
    ·rename_i h1
     split at h
     ·rename_i ds hds
      simp at h;subst h
      simp only
      rw [if_pos ⟨Nat.eq_of_beq_eq_true h1,by simp⟩,hgo _ _ hds];rfl
     ·simp at h
    ·simp at h
   ·simp at h
  |tup cs=>simp [qkv] at h
  |top=>simp [qkv] at h
theorem qnl{t:List B}: ∀{ss:List S} {ds:List D},qpR t ss=some ds->qyz t ss=some ds
 | [],ds,h=>by simpa [qpR,qyz] using h
 |s::ss,ds,h=>by
  unfold qpR at h
  unfold qyz
  split at h
  ·rename_i d hd
   split at h
   ·rename_i ds' hds
    simp at h;subst h
    have:=qnl hds
    unfold qyz at this
    rw [List.mapM_cons,qiS _ _ _ _ hd,this];rfl
   ·simp at h
  ·simp at h
theorem qon{old bs:Nat->Prop}{w0:Ctx}{W:World}{ι:Nat->Value}{a:Act}{r:Option Nat}{n:Nat}(h:Rel old bs w0 ι st a W){ts:Array TypeId}(hop:o.op= .call {callee:= .value f,args:=args.toArray,argTypes:=ts})
  (hf:qe3 st.t 4 (ev st.env f)=some (.f g cap)) (hds:qyz st.t (args.map (ev st.env))=some ds) {R:Ending->World->Prop}
  (hc: ∀us,qaN W bs (ds++cap) us->Calls P g us.toArray W R) (hb:qeS P g)
  {Kw:Act->World->Prop} {Q:Exit->Act->World->Prop} (hR: ∀e W',R e W'-> ∃v,e= .returned v/\Kw (a.put o.dst v) W'):o.wpIn (FW r) n P a W Kw Q:=by
 have hfv:=qgH h.tok 4 _ _ _ hf (h.ev f)
 obtain ⟨cs,hfe,hcs⟩: ∃us,a.eval f= .func (.func g) #[] (List.toArray us)/\qaN W bs cap us:=by
  cases hfv':a.eval f<;>rw [hfv'] at hfv<;>cases hfv
  exact ⟨_,rfl,by assumption,by assumption⟩
 have hargs:qao W ι (qap (tat st.t)) (okT bs (tat st.t) ι) (args.map (ev st.env)) (args.map a.eval):=by
  refine ⟨by simp,fun i c u hc hu=> ?_⟩
  rw [List.getElem?_map] at hc hu
  cases hq:args[i]? with
  |none=>simp [hq] at hc
  |some q=>simp [hq] at hc hu;subst hc;subst hu;exact h.ev q
 have hd:=qgC (fun s d v=>qgH h.tok 4 s d v) hds hargs
 refine ⟨fun f _=>FW.fn r f, ?_⟩
 rw [Oper.semAt_eq _ _ _ (by rw [hop];simp)]
 have hrun:(execOp a.eval o).run P W= .ok (.enter g ((args.map a.eval++cs).toArray)) W:=by
  obtain ⟨fn,h1,h2,h3⟩:=hb
  obtain ⟨c,h2⟩:=Option.isSome_iff_exists.1 h2
  simp [execOp,hop,resolve,hfe,Deferred.ofValue,invoke,callFunc,h1,h2,h3]
  simp_all
 rw [hrun]
 refine ⟨by simp [FW,Fence.wide], ?_⟩
 refine CallsIn.mono (FW.calls (hc _ (hd.append hcs))) fun e W' he=> ?_
 obtain ⟨v,rfl,hk⟩:=hR e W' he
 exact hk
theorem qkg(hf:qkv st.t 4 (evx st.env f)=some (.f g cap))(hd:qpR st.t (args.map (evx st.env))=some ds)(h:Fun P g (ds++cap) res)(hn:qgd res=true)(hk:K ⟨qdQ st.env dst (qh5 res),st.t⟩):qbH P f args dst st K:=by
 unfold qbH
 rintro o ⟨ts,ho⟩ rfl
 rw [qbc] at hf hd
 rw [qbq] at hk
 intro n old bs w0 a W ι Kw Q hr hK
 refine qon hr ho (qiS _ _ _ _ hf) (qnl hd) (hc:=fun us hd=>h.2 W _ us hd) h.1 ?_
 rintro e W' ⟨v,rfl,hret,hbel⟩
 refine ⟨v,rfl, ?_⟩
 have hst:=hr.tok.quiet hr.oldIn (qaP hbel)
 exact hK _ _ _ ι hk (hr.put (t:=st.t) hst ((hret.free (ok':=okT bs (tat st.t) ι) hn).toS fun b hb _=>hb))
end
section
variable {P:Program} {st:St} {K:Ex->St->Prop} {body:Code}
theorem qqZ{α:Type}(I:α->St)(μ:α->Nat)(x0:α)(hw:qc4 st (I x0))
  (h: ∀x,Ok P body (I x) fun e st'=>match e with
   | .normal=> ∃y,μ y<μ x/\qc4 st' (I y)
   |e=>K e st'):Ok P (.loop body) st K:=by
 intro n old bs w0 a W ι hr
 obtain ⟨ι0,hr0⟩:=hw old bs w0 a W ι hr
 classical
 let L:Nat->Act->World->Prop:=fun m a W=> ∃x ι,μ x=m/\Rel old bs w0 ι (I x) a W
 let J:Act->World->Prop:=fun a W=> ∃m,L m a W
 let μ':Act->World->Nat:=fun a W=>if h: ∃m,L m a W then Classical.choose (least h) else 0
 have hμ: ∀a W m,L m a W->μ' a W<=m:=by
  intro a W m hL
  have hex: ∃m,L m a W:=⟨m,hL⟩
  show (if h: ∃m,L m a W then Classical.choose (least h) else 0)<=m
  rw [dif_pos hex]
  exact (Classical.choose_spec (least hex)).2 m hL
 have hμ1: ∀a W,J a W->L (μ' a W) a W:=by
  intro a W hI
  show L (if h: ∃m,L m a W then Classical.choose (least h) else 0) a W
  rw [dif_pos hI]
  exact (Classical.choose_spec (least hI)).1
 refine wpIn_loop J μ' ⟨_,x0,ι0,rfl,hr0⟩ ?_
 intro a1 W1 hI
 obtain ⟨x,ι1,hx,hr1⟩:=hμ1 a1 W1 hI
 refine wpIn_mono (h x _ old bs w0 a1 W1 ι1 hr1) ?_
 rintro e a' W' ⟨x',st',ι',rfl,hk,hrel⟩
 cases x' with
 |normal=>
  obtain ⟨y,hy,hwk⟩:=hk
  obtain ⟨ι2,hr2⟩:=hwk old bs w0 a' W' ι' hrel
  have hL:L (μ y) a' W':=⟨y,ι2,rfl,hr2⟩
  exact ⟨⟨_,hL⟩,by have:=hμ a' W' _ hL;omega⟩
 |exit id=>exact ⟨.exit id,st',ι',rfl,hk,hrel⟩
 |ret=>exact ⟨.ret,st',ι',rfl,hk,hrel⟩
end
theorem qal{z:Bool}{A B:Prop}(h1:z=true->A)(h2:z=false->B):cnd z A B:=by
 cases z
 ·exact h2 rfl
 ·exact h1 rfl
theorem qxy{z:Bool}{A B:Prop}(h:z=true)(h1:A):cnd z A B:=by subst h;exact h1
theorem qxd{z:Bool}{A B:Prop}(h:z=false)(h1:B):cnd z A B:=by subst h;exact h1
theorem qbe{z:Bool}{A B:Prop}(h1:z=true->A)(h2:z=false->B):cnd (bz z) A B:=by
 rw [qay];exact qal h1 h2
theorem qjw{z:Bool}{A B:Prop}(h:z=true)(h1:A):cnd (bz z) A B:=by rw [qay];exact qxy h h1
theorem qbp{z:Bool}{A B:Prop}(h:z=false)(h1:B):cnd (bz z) A B:=by rw [qay];exact qxd h h1
theorem qaf{p:Prop}[Decidable p]{A B:Prop}(h1:p->A)(h2: ¬p->B):cnd (bz (decide p)) A B:=
 qbe (fun h=>h1 (of_decide_eq_true h)) (fun h=>h2 (of_decide_eq_false h))
theorem qaT{p:Prop}[Decidable p]{A B:Prop}(h:p)(h1:A):cnd (bz (decide p)) A B:=qjw (decide_eq_true h) h1
theorem qbF{p:Prop}[Decidable p]{A B:Prop}(h: ¬p)(h1:B):cnd (bz (decide p)) A B:=qbp (decide_eq_false h) h1
theorem qaU{α:Type}[DecidableEq α]{x y:α}{A B:Prop}(h1:x=y->A)(h2:x≠y->B):cnd (bz (x==y)) A B:=
 qbe (fun h=>h1 (eq_of_beq h)) (fun h=>h2 (fun e=>by subst e;simp at h))
theorem qat{α:Type}[DecidableEq α]{x y:α}{A B:Prop}(h1:x≠y->A)(h2:x=y->B):cnd (bz (x !=y)) A B:=
 qbe (fun h=>h1 (by simpa using h)) (fun h=>h2 (by simpa using h))
theorem qbb{z:Bool}{A B:Prop}(h1:z=false->A)(h2:z=true->B):cnd (qor z) A B:=by
 rw [qdz];exact qal (fun h=>h1 (by simpa using h)) (fun h=>h2 (by simpa using h))
theorem qaz{b:Bool}{K:Prop}(h:b=true)(k:K):Sd b K:=by unfold Sd;exact ⟨h,k⟩
theorem qak{p:Prop}[Decidable p]{K:Prop}(h:p)(k:K):Sd (decide p) K:=by unfold Sd;exact ⟨decide_eq_true h,k⟩
theorem qa5{p:Prop}[Decidable p]{size:Nat}{xs:List D}{K:Prop}(h:p)(hu:Uni size xs)(k:K):Sd (decide p&&qhw size xs) K:=by
 unfold Sd;exact ⟨by simp [h,qbE.2 hu],k⟩
theorem qcW{p:Prop}[Decidable p]{size:Nat}{xs ys:List D}{K:Prop}(hu:Uni size xs)(hv:Uni size ys)(h:p)(k:K):Sd (qhw size xs&&(qhw size ys&&decide p)) K:=by
 unfold Sd;exact ⟨by simp [h,qbE.2 hu,qbE.2 hv],k⟩
theorem qcN{p q:Prop}[Decidable p][Decidable q]{K:Prop}(h:p)(h2:q)(k:K):Sd (decide p&&decide q) K:=by
 unfold Sd;exact ⟨by simp [h,h2],k⟩
theorem qae{cells:Nat}{xs:List D}{n:Int}{K:D->Prop}(x:D)(h:xs[n.toNat]? =some x)(h0:0<=n)(hu:Uni cells xs)(k:K (.p 0 x.cells)):qw5 cells xs n K:=by
 unfold qw5;exact ⟨x,h,h0,hu,k⟩
theorem qbd{agg:Bool}{cells size:Nat}{xs:List D}{off i r:Nat}{K:D->Prop}(x d:D)(hx:xs[i]? =some x)(ho:off=i*size+r)(hr:r<size)(hu:Uni size xs)(hd:qnS agg cells x.cells r=some d)(k:K d):
  qw2 agg cells size xs off K:=by unfold qw2;exact ⟨i,r,x,d,ho,hr,hx,hu,hd,k⟩
theorem qqG{cells size:Nat}{xs:List D}{off:Nat}{d:D}{K:List D->Prop}(xs':List D)(h:qds size xs off d.cells=some xs')(hc:d.cells.length=cells)(hu:Uni size xs)(h0:0<size)(k:K xs'):qv8 cells size xs off d K:=by
 unfold qv8;exact ⟨xs',h,hc,hu,h0,k⟩
theorem qaH{cells i:Nat}{xs:List D}{v:Value}{K:List D->Prop}(hi:i<xs.length)(hs: ∀x∈xs,∃u,x= .v u)(hc:cells=1)(k:K (xs.set i (.v v))):qv8 cells 1 xs (i*1) (.v v) K:=by
 refine qqG _ ?_ (by rw [hc];rfl) (fun x hx=> ?_) (by omega) k
 ·have h1:i*1/1=i:=by simp
  have h2:xs[i]? =some xs[i] :=List.getElem?_eq_getElem hi
  obtain ⟨u,hu⟩:=hs _ (List.getElem_mem hi)
  simp [qds,h2,hu,D.cells]
 ·obtain ⟨u,rfl⟩:=hs x hx;rfl
theorem qab{P:Program}{g:FuncId}{ds:List D}{t:List B}{K:qcn->S->Option (Nat×B)->Prop}{res:List D}(h:Fun P g ds res)(k:K ⟨[],none⟩ (qh5 res) none):qi2 P g ds t K:=by
 unfold qi2;exact .inl ⟨res,h,k⟩
theorem qhi{P:Program}{g:FuncId}{ds:List D}{t:List B}{K:qcn->S->Option (Nat×B)->Prop}{e:TypeId}{size bytes:Nat}{res:List D}(h:qty P g ds e size res)
  (k:K ⟨[],some (qb8 t)⟩ (.own (qb8 t) 0) (some (qb8 t,.row 0 e size bytes res))):qi2 P g ds t K:=by
 rw [qaL] at k
 unfold qi2;exact .inr ⟨e,size,bytes,res,h,k⟩
theorem qrQ{P:Program}{g:FuncId}{rest:List S}{ds xs ys:List D}{t:List B}{k ver:Nat}{e:TypeId}{size bytes:Nat}{K:qcn->S->Option (Nat×B)->Prop}(h2:qdp rest=some ds)(h3:qcv t k= .row ver e size bytes xs)(h4:qjN P g e size ds xs ys)
  (hk:K ⟨[k],some k⟩ (.own k (ver+1)) (some (k,.row (ver+1) e size bytes ys))):ql3 P g [] (.own k ver::rest) t K:=by
 unfold ql3;exact .inl ⟨rest,ds,k,ver,e,size,bytes,xs,ys,rfl,rfl,h2,h3,h4,hk⟩
theorem qkY{P:Program}{g:FuncId}{cap ds res xs:List D}{as:List S}{t:List B}(k:Nat){ver:Nat}{e:TypeId}{size bytes:Nat}{K:qcn->S->Option (Nat×B)->Prop}(h1:qcv t k= .row ver e size bytes xs)(h2:0<size)(h3:qdp (as.map (quG k ver xs))=some ds)(h4:Fun P g (ds++cap) res)
  (hk:K ⟨[k],some k⟩ (qh5 res) (some (k,.dead))):ql3 P g cap as t K:=by
 unfold ql3;exact .inr ⟨k,ver,e,size,bytes,xs,ds,res,h1,h2,h3,h4,hk⟩
theorem qad{ops:Array Oper}{ls:List qcn}{K:Prop}(h:qgt ops ls=true)(k:K):qhz ops ls K:=by unfold qhz;exact ⟨h,k⟩
theorem qdc{P:Program}{c:Code}{st:St}{K:Ex->St->Prop}(h:Ok P c st K):OkC P c st K:=by unfold OkC;exact h
def qtK(f:D->D->Prop):List D->List D->Prop
 | [], [] =>True
 |x::xs,y::ys=>f x y/\qtK f xs ys
 |_,_=>False
def qw4(x y:Value):Prop:=
 match x,y with
 | .int k a,.int k' b=>match Nat.beq (ikc k) (ikc k') with|true=>a=b|false=>False
 | .string a,.string b=>a=b
 | .bool a,.bool b=>a=b
 |x,y=>x=y
def qoA:Nat->D->D->Prop
 |0,x,y=>x=y
 |n+1,x,y=>match x,y with
  | .v x,.v y=>qw4 x y
  | .l a,.l b=>a=b
  | .a a,.a b=>qtK (qoA n) a b
  |x,y=>x=y
def qAY(x y:D):Prop:=qoA 4 x y
theorem qut: ∀(n:Nat) (x y:D),qoA n x y->x=y:=by
 intro n
 induction n with
 |zero=>intro x y h;exact h
 |succ n ih=>
  have hl: ∀xs ys:List D,qtK (qoA n) xs ys->xs=ys:=by
   intro xs
   induction xs with
   |nil=>
    intro ys h
    cases ys with
    |nil=>rfl
    |cons=>simp [qtK] at h
   |cons x xs ihx=>
    intro ys h
    cases ys with
    |nil=>simp [qtK] at h
    |cons y ys=>
     simp only [qtK] at h
     rw [ih x y h.1,ihx ys h.2]
  intro x y h
  unfold qoA at h
  split at h
  ·unfold qw4 at h
   split at h
   ·split at h
    ·rename_i hk;rw [qc5 hk,h]
    ·exact h.elim
   ·rw [h]
   ·rw [h]
   ·rw [h]
  ·rw [h]
  ·rw [hl _ _ h]
  ·exact h
theorem qqb{x y:D}(h:qAY x y):x=y:=qut 4 x y h
def qyy(T:Tb)(st:St):ResultVar->Option D
 | .tmp k=>qkv st.t 4 (lk st.env k)
 | .cell k ty=>match qhG T ty with
  |some i=>match lk st.env k with
   | .ptr b ver off=>match qcv st.t b with
    | .box _ cs=>match Nat.beq ver 0 with|true=>(match qiw i cs off with|some s=>qkv st.t 4 s|none=>none)|false=>none
    |_=>none
   | .d (.p off cs)=>qnt i cs off
   |_=>none
  |none=>none
theorem qvo{P:Program}{T:Tb}(hT:qcM P T)(st:St)(r:ResultVar)(d:D)(h:qyy T st r=some d):qht P st r=some d:=by
 cases r with
 |tmp k=>simp only [qyy] at h;simp only [qht];rw [qkk] at h;exact qiS _ _ _ _ h
 |cell k ty=>
  simp only [qyy] at h
  simp only [qht]
  split at h
  ·rename_i i hi
   have hi:=hT ty i hi
   rw [if_pos hi.und]
   rw [qkk,qa4] at h
   split at h
   ·rename_i b ver off hk
    rw [hk]
    simp only
    split at h
    ·rename_i bt cs hb
     rw [hb]
     split at h
     ·rename_i h1
      split at h
      ·rename_i s hs
       rw [qfh hi] at hs
       simp only
       rw [if_pos (Nat.eq_of_beq_eq_true h1),hs]
       exact qiS _ _ _ _ h
      ·simp at h
     ·simp at h
    ·simp at h
   ·rename_i off cs hk
    rw [hk];rw [qfA hi] at h;exact h
   ·simp at h
  ·simp at h
def qxw(T:Tb)(st:St):List ResultVar->List D->Prop
 | [], [] =>True
 |r::rs,x::xs=>(match qyy T st r with|some d=>qAY d x|none=>False)/\qxw T st rs xs
 |_,_=>False
theorem qlC{P:Program}{T:Tb}(hT:qcM P T){st:St}: ∀{rs:List ResultVar} {xs:List D},qxw T st rs xs->rs.mapM (qht P st)=some xs
 | [], [],_=>by simp
 |r::rs,x::xs,h=>by
  obtain ⟨h1,h2⟩:=h
  split at h1
  ·rename_i d hd
   rw [List.mapM_cons,qvo hT _ _ _ hd,qlC hT h2,qqb h1];rfl
  ·exact h1.elim
 | [],_::_,h=>h.elim
 |_::_, [],h=>h.elim
def qoL:Nat->List S
 |0=> []
 |n+1=> .top::qoL n
theorem qhb: ∀n,qoL n=List.replicate n .top
 |0=>rfl
 |n+1=>by rw [qoL,qhb n];rfl
def qgs:List D->List S
 | [] => []
 |d::ds=> .d d::qgs ds
def qdP:List S->List S->List S
 | [],ys=>ys
 |x::xs,ys=>x::qdP xs ys
def qeD(args:List D)(ntmps:Nat):St:=⟨qdP (qgs args) (qoL (ntmps-qb8 args)), []⟩
theorem qjK:qeD=qiY:=by
 funext a n
 have h1: ∀xs ys,qdP xs ys=xs++ys:=by intro xs ys;induction xs<;>simp [qdP, *]
 have h2: ∀ds,qgs ds=ds.map .d:=by intro ds;induction ds<;>simp [qgs, *]
 simp [qeD,qiY,qhb,h1,h2,qaL]
def qzg(P:Program)(g:FuncId)(args:List D)(Q:List D->Prop):Prop:=qeS P g/\
 ∀(w:World) (ok:Nat->Prop) (us:List Value),qaN w ok args us->
  Calls P g us.toArray w fun e w'=> ∃v res,e= .returned v/\Q res/\qed w' (fun b=>ok b\/w.heap.size<=b) res v/\Below w.heap.size w w'
theorem qzg.fn{P:Program}{g:FuncId}{args res:List D}(h:qzg P g args (· =res)):Fun P g args res:=
 ⟨h.1,fun w ok us hd=>(h.2 w ok us hd).mono fun e w' ⟨v,r,h1,h2,h3,h4⟩=>⟨v,h1,by rw [<-h2];exact h3,h4⟩⟩
def qAk(T:Tb)(rs:List ResultVar)(Q:List D->Prop)(e:Ex)(st:St):Prop:=
 match e with
 | .exit _=>False
 |_=> ∃res,qxw T st rs res/\Q res
def qCj(T:Tb)(rs:List ResultVar)(res:List D)(e:Ex)(st:St):Prop:=
 match e with
 | .exit _=>False
 |_=>qxw T st rs res
theorem qif{P:Program}{T:Tb}{g:FuncId}{fn:Func}{c:Code}{args:List D}{Q:List D->Prop}(hm:P.follows .mixedOrders=true)(hT:qcM P T)(hf:P.funcs[g]? =some fn)(hb:fn.body=some c)(hn:(fn.name== "runtime.NumGoroutine")=false)
  (h:Ok P c (qeD args fn.ntmps) (qAk T fn.results.toList Q)):qzg P g args Q:=by
 rw [qjK] at h
 refine ⟨⟨fn,hf,by rw [hb];rfl,hn⟩,fun w ok us hd=> ?_⟩
 refine (callsIn_wide (n:=0)).1 (callsIn_of_wp_marks (F:=FW none) hf hb (FW.fn none g) ?_ rfl)
 let old:Nat->Prop:=fun b=>b<w.heap.size
 let bs:Nat->Prop:=fun b=>ok b\/w.heap.size<=b
 have hrel:Rel old bs ⟨w,fun _=>⟨[],0,0,0⟩,none⟩ (fun _=>undef) (qiY args fn.ntmps) {tmps:=us.toArray++Array.replicate (fn.ntmps-us.toArray.size) undef,defers:= [] } w:=qkG hd
 refine wpIn_mono (h 0 old bs _ _ w _ hrel) ?_
 rintro e a' W' ⟨x,st,ι,rfl,hfin,hr⟩
 have hx:x= .ret\/x= .normal:=by cases x<;>simp [qAk] at hfin ⊢
 obtain ⟨res,hres,hQ⟩: ∃res,fn.results.toList.mapM (qht P st)=some res/\Q res:=by
  cases x with
  |exit i=>exact hfin.elim
  |normal=>obtain ⟨res,h1,h2⟩:=hfin;exact ⟨res,qlC hT h1,h2⟩
  |ret=>obtain ⟨res,h1,h2⟩:=hfin;exact ⟨res,qlC hT h1,h2⟩
 have hout:=hr.out (n:=0) (P:=P) (fn:=fn) (R:=fun e w'=> ∃v res,e= .returned v/\Q res/\qed w' (fun b=>ok b\/w.heap.size<=b) res v/\Below w.heap.size w w') fun W2 hr=>by
  obtain ⟨v,hrun,hret⟩:=qlY hr hres
  exact ⟨v,hrun,v,res,rfl,hQ,hret,⟨hr.fr.os,hr.fr.tape,hr.fr.output,hr.fr.size,hr.fr.block⟩⟩
 rcases hx with rfl|rfl
 ·exact hout
 ·exact hout
theorem qac{P:Program}{T:Tb}{g:FuncId}{fn:Func}{c:Code}{args res:List D}(mu:Tmp->Bool)(hm:P.follows .mixedOrders=true)(hT:qcM P T)(hf:P.funcs[g]? =some fn)(hb:fn.body=some c)(hn:(fn.name== "runtime.NumGoroutine")=false)
  (h:go P T mu c (qeD args fn.ntmps) (qCj T fn.results.toList res)):Fun P g args res:=by
 have h:=qlS hm hT c _ _ h
 refine qzg.fn ?_
 have h2:Ok P c (qeD args fn.ntmps) (qAk T fn.results.toList (· =res)):=h.mono fun e st hk=>by
  cases e with
  |exit i=>exact hk
  |normal=>exact ⟨res,hk,rfl⟩
  |ret=>exact ⟨res,hk,rfl⟩
 exact qif hm hT hf hb hn h2
def qsT:S->S->Prop
 | .d x,.d y=>qAY x y
 | .own k v,.own k' v'=>match Nat.beq k k' with|true=>(match Nat.beq v v' with|true=>True|false=>v=v')|false=>False
 | .ptr k v o,.ptr k' v' o'=>match Nat.beq k k' with|true=>(match Nat.beq v v' with|true=>o=o'|false=>False)|false=>False
 |x,y=>x=y
theorem qpp{x y:S}(h:qsT x y):x=y:=by
 unfold qsT at h
 split at h
 ·rw [qqb h]
 ·split at h
  ·rename_i h1
   rw [Nat.eq_of_beq_eq_true h1]
   split at h
   ·rename_i h2;rw [Nat.eq_of_beq_eq_true h2]
   ·rw [h]
  ·exact h.elim
 ·split at h
  ·rename_i h1
   rw [Nat.eq_of_beq_eq_true h1]
   split at h
   ·rename_i h2;rw [Nat.eq_of_beq_eq_true h2,h]
   ·exact h.elim
  ·exact h.elim
 ·exact h
def leX:List S->List S->Prop
 | [], [] =>True
 |s::ss,s'::ss'=>match s' with
  | .top=>leX ss ss'
  |s'=>qsT s s'/\leX ss ss'
 |_,_=>False
theorem qh8: ∀{ss ss':List S},leX ss ss'->LeL ss ss'
 | [], [],_=>trivial
 |s::ss,s'::ss',h=>by
  unfold leX at h
  unfold LeL
  split at h
  ·exact ⟨trivial,qh8 h⟩
  ·rename_i hne
   refine ⟨?_,qh8 h.2⟩
   have:=qpp h.1
   cases s' with
   |top=>exact absurd rfl hne
   |_=>exact this
 | [],_::_,h=>h.elim
 |_::_, [],h=>h.elim
def qq2:B->B->Prop
 | .row v e s b xs,.row v' e' s' b' xs'=>v=v'/\e=e'/\s=s'/\b=b'/\xs=xs'
 | .box t cs,.box t' cs'=>t=t'/\go cs cs'
 |x,y=>x=y
where go:List S->List S->Prop
 | [], [] =>True
 |x::xs,y::ys=>qsT x y/\go xs ys
 |_,_=>False
theorem qpy{x y:B}(h:qq2 x y):x=y:=by
 have hl: ∀xs ys,qq2.go xs ys->xs=ys:=by
  intro xs
  induction xs with
  |nil=>intro ys h;cases ys with
   |nil=>rfl
   |cons=>simp [qq2.go] at h
  |cons x xs ih=>intro ys h;cases ys with
   |nil=>simp [qq2.go] at h
   |cons y ys=>obtain ⟨h1,h2⟩:=h;rw [qpp h1,ih _ h2]
 unfold qq2 at h
 split at h
 ·obtain ⟨rfl,rfl,rfl,rfl,rfl⟩:=h;rfl
 ·obtain ⟨rfl,h⟩:=h;rw [hl _ _ h]
 ·exact h
def leT:List B->List B->Prop
 | [], [] =>True
 |x::xs,y::ys=>qq2 x y/\leT xs ys
 |_,_=>False
theorem qtD: ∀{xs ys:List B},leT xs ys->xs=ys
 | [], [],_=>rfl
 |x::xs,y::ys,h=>by rw [qpy h.1,qtD h.2]
 | [],_::_,h=>h.elim
 |_::_, [],h=>h.elim
theorem qa1{env env':List S}{t t':List B}(ht:leT t t')(h:leX env env'):qc4 ⟨env,t⟩ ⟨env',t'⟩:=qwl (qtD ht) (qh8 h)
def fr(n:Nat):List (Nat×S)->List S
 | [] =>qoL n
 |(i,s)::xs=>st1 (fr n xs) i s
end Go.Nv
end
section
namespace Go.Nv
open Go.RowKit
def lpX(Kn:St->Prop)(K:Ex->St->Prop)(e:Ex)(st:St):Prop:=match e with
 | .normal=>Kn st
 | .exit i=>K (.exit i) st
 | .ret=>K .ret st
section
variable {P:Program} {T:Tb} {st:St} {K:Ex->St->Prop} {body:Code}
theorem qah{α:Type}(mu:Tmp->Bool)(I:α->St)(inv:α->Prop)(μ:α->Nat)(x0:α)(hm:P.follows .mixedOrders=true)(hT:qcM P T)(h0:inv x0)(hw:qc4 st (I x0))
  (h: ∀x,inv x->go P T mu body (I x) (lpX (fun st'=> ∃y,inv y/\μ y<μ x/\qc4 st' (I y)) K)):OkC P (.loop body) st K:=by
 refine qdc (qqZ (fun x:{x:α//inv x}=>I x.1) (fun x=>μ x.1) ⟨x0,h0⟩ hw ?_)
 rintro ⟨x,hx⟩
 refine (qlS hm hT body _ _ (h x hx)).mono ?_
 rintro e st' hk
 cases e with
 |normal=>obtain ⟨y,h1,h2,h3⟩:=hk;exact ⟨⟨y,h1⟩,h2,h3⟩
 |exit i=>exact hk
 |ret=>exact hk
end
end Go.Nv
end
section
namespace Go.Nv
open Go.RowKit
def qAu(k ver:Nat)(xs:List D):S->S
 | .own j v=>match Nat.beq j k with|true=>(match Nat.beq v ver with|true=> .d (.l xs)|false=> .top)|false=> .own j v
 | .ptr j v o=>match Nat.beq j k with|true=> .top|false=> .ptr j v o
 | .d x=> .d x
 |_=> .top
def qpa(k ver:Nat)(xs:List D):Nat->S->S
 |0,s=>qAu k ver xs s
 |n+1,s=>match s with
  | .agg cs=>qn2 (cs.map (qpa k ver xs n))
  | .clo g cs=> .clo g (cs.map (qpa k ver xs n))
  | .tup cs=> .tup (cs.map (qpa k ver xs n))
  |s=>qAu k ver xs s
def qwT(k ver:Nat)(xs:List D):B->B
 | .box t cs=> .box t (cs.map (qpa k ver xs 2))
 | .ghost cs=> .ghost (cs.map (qpa k ver xs 3))
 | .loop s pend ps asg body cs=> .loop s pend ps asg body (cs.map (qpa k ver xs 3))
 |b=>b
def qhY(k ver:Nat)(xs:List D):Nat->List B->List B
 |_, [] => []
 |i,b::t=>(match Nat.beq i k with|true=> .dead|false=>qwT k ver xs b)::qhY k ver xs (i+1) t
def qre(k:Nat)(st:St):St:=
 match qcv st.t k with
 | .row ver _ size _ xs=>match Nat.blt 0 size with
  |true=>⟨st.env.map (qpa k ver xs 3),qhY k ver xs 0 st.t⟩
  |false=>st
 |_=>st
theorem qlu(k ver:Nat)(xs:List D): ∀(t:List B) (i j:Nat),tat (qhY k ver xs i t) j=if i+j=k/\j<t.length then .dead else qwT k ver xs (tat t j)
 | [],i,j=>by simp [qhY,tat,qwT]
 |b::t,i,j=>by
  cases j with
  |zero=>
   simp only [qhY,tat,List.getD_eq_getElem?_getD,List.getElem?_cons_zero,Option.getD_some,Nat.add_zero,List.length_cons]
   cases h:Nat.beq i k with
   |true=>have:=Nat.eq_of_beq_eq_true h;simp [this]
   |false=>
    have:i≠k:=fun e=>by subst e;rw [Nat.beq_refl] at h;simp at h
    simp [this]
  |succ j=>
   have:=qlu k ver xs t (i+1) j
   have e:tat (qhY k ver xs i (b::t)) (j+1)=tat (qhY k ver xs (i+1) t) j:=by simp [qhY,tat]
   have e2:tat (b::t) (j+1)=tat t j:=by simp [tat]
   rw [e,e2,this]
   simp only [List.length_cons]
   by_cases h:i+1+j=k/\j<t.length
   ·rw [if_pos h,if_pos ⟨by omega,by omega⟩]
   ·rw [if_neg h,if_neg (fun h'=>h ⟨by omega,by omega⟩)]
section
variable {W:World} {old bs:Nat->Prop} {ι:Nat->Value} {τ:Nat->B}
theorem qox{W:World}{ι:Nat->Value}{vr:Nat->Option (Option Nat)}{ok:Nat->Prop}{ss:List S}{us:List Value}(h:qao W ι vr ok ss us)(h1: ∀(i:Nat) (u:Value),us[i]? =some u->u.oneCell'=true):qaC W ι vr ok (qn2 ss) (.agg us.toArray):=by
 unfold qn2
 split
 ·rename_i ds hds
  have:=qbL hds
  subst this
  exact .d (.a h.inv.1 h.inv.2 h1)
 ·exact .agg h.1 h.2 h1
theorem qoG(hT:TOk W old bs ι τ)(hN:qbC old W){k ver:Nat}{e:TypeId}{size bytes:Nat}{xs:List D}(hk:τ k= .row ver e size bytes xs)(h0:0<size):
  ∀(n:Nat) (s:S) (v:Value),qaC W ι (qap τ) (okT bs τ ι) s v->qaC W ι (qap (at_ τ k .dead)) (okT bs (at_ τ k .dead) ι) (qpa k ver xs n s) v:=by
 have hst:=qer hT hN k (by rw [hk];rfl)
 have hO: ∀(s:S) (v:Value),qaC W ι (qap τ) (okT bs τ ι) s v->qaC W ι (qap (at_ τ k .dead)) (okT bs (at_ τ k .dead) ι) (qAu k ver xs s) v:=by
  intro s v hs
  unfold qAu
  split
  ·rename_i j v'
   split
   ·rename_i hj
    have hj:=Nat.eq_of_beq_eq_true hj
    subst hj
    split
    ·rename_i hv
     have hv:=Nat.eq_of_beq_eq_true hv
     subst hv
     have:=qcm hs (qa9 hk)
     subst this
     exact .d (qjh hT hk h0)
    ·exact .top
   ·exact hst.sden hs
  ·split
   ·exact .top
   ·exact hst.sden hs
  ·exact hst.sden hs
  ·exact .top
 intro n
 induction n with
 |zero=>exact hO
 |succ n ih=>
  have hL: ∀(ss:List S) (us:List Value),qao W ι (qap τ) (okT bs τ ι) ss us->qao W ι (qap (at_ τ k .dead)) (okT bs (at_ τ k .dead) ι) (ss.map (qpa k ver xs n)) us:=by
   intro ss us h
   refine ⟨by simp [h.1],fun i c u hc hu=> ?_⟩
   rw [List.getElem?_map] at hc
   cases hq:ss[i]? with
   |none=>simp [hq] at hc
   |some q=>simp [hq] at hc;subst hc;exact ih _ _ (h.2 i q u hq hu)
  intro s v hs
  unfold qpa
  split
  ·rename_i cs
   obtain ⟨us,rfl,h2,h3⟩:=qkR hs
   exact qox (hL _ _ h2) h3
  ·rename_i g cs
   cases hs with
   |clo hl hh=>
    have:=hL _ _ ⟨hl,hh⟩
    exact .clo this.1 this.2
  ·rename_i cs
   obtain ⟨us,rfl,h2⟩:=qmL hs
   have:=hL _ _ h2
   exact .tup this.1 this.2
  ·exact hO _ _ hs
theorem qrs(k:Nat)(st:St):qc4 st (qre k st):=by
 intro old bs w0 a W ι hr
 unfold qre
 rw [qa4]
 split
 ·rename_i ver e size bytes xs hk
  split
  ·rename_i h0
   have h0:=qdn h0
   have hkt:k<st.t.length:=by
    rcases Nat.lt_or_ge k st.t.length with h|h
    ·exact h
    ·rw [tat,List.getD_eq_getElem?_getD,List.getElem?_eq_none h] at hk;simp at hk
   have hat: ∀j,tat (qhY k ver xs 0 st.t) j=if j=k then .dead else qwT k ver xs (tat st.t j):=by
    intro j
    rw [qlu]
    simp only [Nat.zero_add]
    by_cases h:j=k
    ·subst h;simp [hkt]
    ·simp [h]
   have hver:qap (tat (qhY k ver xs 0 st.t))=qap (at_ (tat st.t) k .dead):=by
    funext j
    unfold qap
    rw [hat j];unfold at_
    split
    ·rfl
    ·cases tat st.t j<;>rfl
   have hlive: ∀j,(tat (qhY k ver xs 0 st.t) j).live=(at_ (tat st.t) k .dead j).live:=by
    intro j
    rw [hat j];unfold at_
    split
    ·rfl
    ·cases tat st.t j<;>rfl
   have hokT:okT bs (tat (qhY k ver xs 0 st.t)) ι=okT bs (at_ (tat st.t) k .dead) ι:=by
    funext b
    unfold okT
    simp only [hlive]
   have hloop: ∀j,(tat (qhY k ver xs 0 st.t) j).isLoop=true->(tat st.t j).isLoop=true:=by
    intro j hj
    rw [hat j] at hj
    split at hj
    ·simp [B.isLoop] at hj
    ·cases hq:tat st.t j<;>rw [hq] at hj<;>simp_all [qwT,B.isLoop]
   have hL: ∀{cs:List S} {us:List Value},qao W ι (qap (tat st.t)) (okT bs (tat st.t) ι) cs us->qao W ι (qap (tat (qhY k ver xs 0 st.t))) (okT bs (tat (qhY k ver xs 0 st.t)) ι) (cs.map (qpa k ver xs 3)) us:=by
    intro cs us ho
    rw [hver,hokT]
    refine ⟨by simp [ho.1],fun i c u hc hu=> ?_⟩
    rw [List.getElem?_map] at hc
    cases hq:cs[i]? with
    |none=>simp [hq] at hc
    |some q=>simp [hq] at hc;subst hc;exact qoG hr.tok hr.oldIn hk h0 3 _ _ (ho.2 i q u hq hu)
   refine ⟨ι,hr.defers,hr.oldIn,hr.fr, ?_,hL hr.env,fun j=> ?gh,fun i j hi hj=>hr.lap i j (hloop i hi) (hloop j hj),hr.rnd⟩
   case gh=>
    have hg:=hr.gh j
    show qdN W old ι (qap (tat (qhY k ver xs 0 st.t))) (okT bs (tat (qhY k ver xs 0 st.t)) ι) (w0.gs j) j (tat (qhY k ver xs 0 st.t) j)
    rw [hat j]
    split
    ·trivial
    ·cases hq:tat st.t j with
     |ghost cs=>rw [hq] at hg;exact hL hg
     |loop s pend ps asg body cs=>
      rw [hq] at hg
      obtain ⟨h1,h2,h3,h4,h5⟩:=hg
      refine ⟨h1, ?_,h3,h4,hL h5⟩
      rw [hokT]
      have hst:=qer hr.tok hr.oldIn k (by rw [hk];rfl)
      exact hst.ok _ h2 (Array.getElem?_eq_some_iff.1 h4).1
     |_=>trivial
   ·have hst:=qer hr.tok hr.oldIn k (by rw [hk];rfl)
    have hkt:k<st.t.length:=by
     rcases Nat.lt_or_ge k st.t.length with h|h
     ·exact h
     ·rw [tat,List.getD_eq_getElem?_getD,List.getElem?_eq_none h] at hk;simp at hk
    have hat: ∀j,tat (qhY k ver xs 0 st.t) j=if j=k then .dead else qwT k ver xs (tat st.t j):=by
     intro j
     rw [qlu]
     simp only [Nat.zero_add]
     by_cases h:j=k
     ·subst h;simp [hkt]
     ·simp [h]
    have hlive: ∀j,(tat (qhY k ver xs 0 st.t) j).live=(at_ (tat st.t) k .dead j).live:=by
     intro j
     rw [hat j];unfold at_
     split
     ·rfl
     ·cases tat st.t j<;>rfl
    have hver:qap (tat (qhY k ver xs 0 st.t))=qap (at_ (tat st.t) k .dead):=by
     funext j
     unfold qap
     rw [hat j];unfold at_
     split
     ·rfl
     ·cases tat st.t j<;>rfl
    have hokT:okT bs (tat (qhY k ver xs 0 st.t)) ι=okT bs (at_ (tat st.t) k .dead) ι:=by
     funext b
     unfold okT
     simp only [hlive]
    refine ⟨hr.tok.bsn,fun j=> ?_,fun i j b hi hj=>by rw [hlive] at hi hj;exact hst.tok.apart i j b hi hj⟩
    have he:=hst.tok.ent j
    rw [hver,hokT,hat j]
    by_cases h:j=k
    ·rw [if_pos h];trivial
    ·rw [if_neg h]
     rw [qa2 _ _ h] at he
     cases hb:tat st.t j with
     |box t cs=>
      have ho:=hr.tok.ent j
      rw [hb] at ho
      obtain ⟨b,us,h1,h2,h3,h4,h5⟩:=ho
      refine ⟨b,us,h1,h2,h3,⟨by simp [h4.1],fun i c u hc hu=> ?_⟩,h5⟩
      rw [List.getElem?_map] at hc
      cases hq:cs[i]? with
      |none=>simp [hq] at hc
      |some q=>simp [hq] at hc;subst hc;exact qoG hr.tok hr.oldIn hk h0 2 _ _ (h4.2 i q u hq hu)
     |row v' e' s' b' xs'=>rw [hb] at he;exact he
     |dead=>trivial
     |ghost cs=>trivial
     |loop=>rw [hb] at he;exact he
     |gone=>trivial
  ·exact ⟨ι,hr⟩
 ·exact ⟨ι,hr⟩
theorem qbO{P:Program}{f:Operand}{args:List Operand}{dst:Option Tmp}{st:St}{K:St->Prop}(k:Nat)(h:qbH P f args dst (qre k st) K):qbH P f args dst st K:=by
 unfold qbH at*
 exact fun o ho hd=>(h o ho hd).weak (qrs k st)
end
end Go.Nv
end
section
namespace Go.Nv
open Go.RowKit
def qAm(t:List B):S->S
 | .own j w=>match qcv t j with
  | .row v _ _ _ _=>match Nat.beq w v with|true=> .own j 0|false=> .top
  | .loop .. =>match Nat.beq w 0 with|true=> .own j 0|false=> .top
  |_=> .top
 | .ptr j w o=>match qcv t j with
  | .row v _ _ _ _=>match Nat.beq w v with|true=> .ptr j 0 o|false=> .top
  | .box _ _=>match Nat.beq w 0 with|true=> .ptr j 0 o|false=> .top
  |_=> .top
 | .d x=> .d x
 |_=> .top
def qlh(t:List B):Nat->S->S
 |0,s=>qAm t s
 |n+1,s=>match s with
  | .agg cs=>qn2 (cs.map (qlh t n))
  | .clo g cs=> .clo g (cs.map (qlh t n))
  | .tup cs=> .tup (cs.map (qlh t n))
  |s=>qAm t s
def qbl{α β:Type}(f:α->β):List α->List β
 | [] => []
 |x::xs=>f x::qbl f xs
theorem qf3{α β:Type}(f:α->β)(l:List α):qbl f l=l.map f:=by induction l<;>simp [qbl, *]
def qc9(t:List B):B->B
 | .box ty cs=> .box ty (cs.map (qlh t 2))
 | .ghost cs=> .ghost (qbl (qlh t 3) cs)
 | .loop s pend ps asg body cs=> .loop s pend ps asg body (qbl (qlh t 3) cs)
 | .row _ e s b xs=> .row 0 e s b xs
 |b=>b
def qcg:List B->List B
 | [] => []
 |b::t=>match qcg t with
  | [] =>match b with
   | .dead=> []
   |b=> [b]
  |x::t'=>b::x::t'
theorem qcU: ∀(l:List B) (j:Nat),tat (qcg l) j=tat l j\/(tat l j= .dead/\tat (qcg l) j= .gone)
 | [],j=> .inl rfl
 |b::t,j=>by
  have h0:tat (b::t) 0=b:=rfl
  have hs: ∀j,tat (b::t) (j+1)=tat t j:=fun j=>by simp [tat]
  unfold qcg
  cases ht:qcg t with
  |nil=>
   have ih:=qcU t
   rw [ht] at ih
   have hn: ∀j,tat ([] :List B) j= .gone:=fun j=>by simp [tat]
   have h1: ∀j,tat t j= .gone\/tat t j= .dead:=fun j=>by
    rcases ih j with h|⟨h,_⟩
    ·rw [hn] at h;exact .inl h.symm
    ·exact .inr h
   simp only
   split
   ·cases j with
    |zero=>exact .inr ⟨h0,hn 0⟩
    |succ j=>
     rw [hs,hn]
     rcases h1 j with h|h
     ·exact .inl h.symm
     ·exact .inr ⟨h,rfl⟩
   ·cases j with
    |zero=>exact .inl rfl
    |succ j=>
     have:tat [b] (j+1)= .gone:=by simp [tat]
     rw [hs,this]
     rcases h1 j with h|h
     ·exact .inl h.symm
     ·exact .inr ⟨h,rfl⟩
  |cons x t'=>
   simp only
   cases j with
   |zero=>exact .inl rfl
   |succ j=>
    have:tat (b::x::t') (j+1)=tat (x::t') j:=by simp [tat]
    rw [hs,this, <-ht]
    exact qcU t j
theorem qdE(t0 t:List B)(j:Nat):tat (qbl (qc9 t0) t) j=qc9 t0 (tat t j):=by
 rw [qf3]
 unfold tat
 rw [List.getD_eq_getElem?_getD,List.getElem?_map,List.getD_eq_getElem?_getD]
 cases t[j]? with
 |none=>rfl
 |some b=>rfl
section
variable {W:World} {old bs:Nat->Prop} {ι:Nat->Value} {t:List B}
theorem qjj{t:List B}{j v:Nat}(hd:qc9 t (tat t j)≠ .dead)(h:(qc9 t (tat t j)).ver=some (some v)):qap (tat (qcg (qbl (qc9 t) t))) j=some (some v):=by
 unfold qap
 rcases qcU (qbl (qc9 t) t) j with hq|⟨hq,_⟩
 ·rw [hq,qdE];exact h
 ·rw [qdE] at hq;exact absurd hq hd
theorem quB(hT:TOk W old bs ι (tat t)): ∀(n:Nat) (s:S) (v:Value),qaC W ι (qap (tat t)) (okT bs (tat t) ι) s v->qaC W ι (qap (tat (qcg (qbl (qc9 t) t)))) (okT bs (tat (qcg (qbl (qc9 t) t))) ι) (qlh t n s) v:=by
 have hlive: ∀j,(tat (qcg (qbl (qc9 t) t)) j).live=(tat t j).live:=by
  intro j
  rcases qcU (qbl (qc9 t) t) j with h|⟨h1,h2⟩
  ·rw [h,qdE];cases tat t j<;>rfl
  ·rw [h2]
   rw [qdE] at h1
   cases hq:tat t j<;>rw [hq] at h1<;>simp [qc9] at h1<;>rfl
 have hokT:okT bs (tat (qcg (qbl (qc9 t) t))) ι=okT bs (tat t) ι:=by
  funext b;unfold okT;simp only [hlive]
 rw [hokT]
 have hO: ∀(s:S) (v:Value),qaC W ι (qap (tat t)) (okT bs (tat t) ι) s v->qaC W ι (qap (tat (qcg (qbl (qc9 t) t)))) (okT bs (tat t) ι) (qAm t s) v:=by
  intro s v hs
  unfold qAm
  split
  ·rename_i j w
   rw [qa4]
   split
   ·rename_i v' e sz b xs hk
    split
    ·rename_i h1
     have h1:=Nat.eq_of_beq_eq_true h1
     subst h1
     have:=qcm hs (qa9 hk)
     exact .own (qaO (qjj (by rw [hk];simp [qc9]) (by rw [hk];simp [qc9,B.ver]))) fun _=>this
    ·exact .top
   ·rename_i hk
    split
    ·rename_i h1
     have h1:=Nat.eq_of_beq_eq_true h1
     subst h1
     have:=qcm hs (by simp [qap,hk,B.ver])
     exact .own (qaO (qjj (by rw [hk];simp [qc9]) (by rw [hk];simp [qc9,B.ver]))) fun _=>this
    ·exact .top
   ·exact .top
  ·rename_i j w o
   rw [qa4]
   split
   ·rename_i v' e sz b xs hk
    split
    ·rename_i h1
     have h1:=Nat.eq_of_beq_eq_true h1
     subst h1
     have:=qcT hs (qa9 hk)
     exact .ptr (qaO (qjj (by rw [hk];simp [qc9]) (by rw [hk];simp [qc9,B.ver]))) fun _=>this
    ·exact .top
   ·rename_i bt cs hk
    split
    ·rename_i h1
     have h1:=Nat.eq_of_beq_eq_true h1
     subst h1
     have:=qcT hs (by simp [qap,hk,B.ver])
     exact .ptr (qaO (qjj (by rw [hk];simp [qc9]) (by rw [hk];simp [qc9,B.ver]))) fun _=>this
    ·exact .top
   ·exact .top
  ·cases hs with
   |d h=>exact .d h
  ·exact .top
 intro n
 induction n with
 |zero=>exact hO
 |succ n ih=>
  have hL: ∀(ss:List S) (us:List Value),qao W ι (qap (tat t)) (okT bs (tat t) ι) ss us->qao W ι (qap (tat (qcg (qbl (qc9 t) t)))) (okT bs (tat t) ι) (ss.map (qlh t n)) us:=by
   intro ss us h
   refine ⟨by simp [h.1],fun i c u hc hu=> ?_⟩
   rw [List.getElem?_map] at hc
   cases hq:ss[i]? with
   |none=>simp [hq] at hc
   |some q=>simp [hq] at hc;subst hc;exact ih _ _ (h.2 i q u hq hu)
  intro s v hs
  unfold qlh
  split
  ·rename_i cs
   obtain ⟨us,rfl,h2,h3⟩:=qkR hs
   exact qox (hL _ _ h2) h3
  ·rename_i g cs
   cases hs with
   |clo hl hh=>
    have:=hL _ _ ⟨hl,hh⟩
    exact .clo this.1 this.2
  ·rename_i cs
   obtain ⟨us,rfl,h2⟩:=qmL hs
   have:=hL _ _ h2
   exact .tup this.1 this.2
  ·exact hO _ _ hs
theorem qmq(env:List S)(t:List B):qc4 ⟨env,t⟩ ⟨qbl (qlh t 3) env,qcg (qbl (qc9 t) t)⟩:=by
 intro old bs w0 a W ι hr
 have hd:=quB (t:=t) hr.tok
 have hlive: ∀j,(tat (qcg (qbl (qc9 t) t)) j).live=(tat t j).live:=by
  intro j
  rcases qcU (qbl (qc9 t) t) j with h|⟨h1,h2⟩
  ·rw [h,qdE];cases tat t j<;>rfl
  ·rw [h2]
   rw [qdE] at h1
   cases hq:tat t j<;>rw [hq] at h1<;>simp [qc9] at h1<;>rfl
 have hokT:okT bs (tat (qcg (qbl (qc9 t) t))) ι=okT bs (tat t) ι:=by
  funext b;unfold okT;simp only [hlive]
 have hL: ∀{cs:List S} {us:List Value},qao W ι (qap (tat t)) (okT bs (tat t) ι) cs us->qao W ι (qap (tat (qcg (qbl (qc9 t) t)))) (okT bs (tat (qcg (qbl (qc9 t) t))) ι) (qbl (qlh t 3) cs) us:=by
  intro cs us ho
  rw [show qbl (qlh t 3) cs=cs.map (qlh t 3) from qf3 _ _]
  refine ⟨by simp [ho.1],fun i c u hc hu=> ?_⟩
  rw [List.getElem?_map] at hc
  cases hq:cs[i]? with
  |none=>simp [hq] at hc
  |some q=>simp [hq] at hc;subst hc;exact hd 3 _ _ (ho.2 i q u hq hu)
 have hloop: ∀j,(tat (qcg (qbl (qc9 t) t)) j).isLoop=true->(tat t j).isLoop=true:=by
  intro j hj
  rcases qcU (qbl (qc9 t) t) j with h|⟨h1,h2⟩
  ·rw [h,qdE] at hj;cases hq:tat t j<;>rw [hq] at hj<;>simp_all [qc9,B.isLoop]
  ·rw [h2] at hj;simp [B.isLoop] at hj
 refine ⟨ι,hr.defers,hr.oldIn,hr.fr, ?_,hL hr.env,fun j=> ?gh,fun i j hi hj=>hr.lap i j (hloop i hi) (hloop j hj),hr.rnd⟩
 case gh=>
  have hg:=hr.gh j
  show qdN W old ι (qap (tat (qcg (qbl (qc9 t) t)))) (okT bs (tat (qcg (qbl (qc9 t) t))) ι) (w0.gs j) j (tat (qcg (qbl (qc9 t) t)) j)
  rcases qcU (qbl (qc9 t) t) j with hq|⟨_,hq⟩
  case inr=>rw [hq];trivial
  rw [hq,qdE]
  rw [show (⟨env,t⟩:St).t=t from rfl] at hg
  cases hb:tat t j with
  |ghost cs=>rw [hb] at hg;exact hL hg
  |loop s pend ps asg body cs=>
   rw [hb] at hg
   obtain ⟨h1,h2,h3,h4,h5⟩:=hg
   exact ⟨h1,by rw [hokT];exact h2,h3,h4,hL h5⟩
  |_=>trivial
 ·refine ⟨hr.tok.bsn,fun j=> ?_,fun i j b hi hj=>by
   simp only [hlive] at hi hj;exact hr.tok.apart i j b hi hj⟩
  have he:=hr.tok.ent j
  show qhZ W old ι (qap (tat (qcg (qbl (qc9 t) t)))) (okT bs (tat (qcg (qbl (qc9 t) t))) ι) j (tat (qcg (qbl (qc9 t) t)) j)
  rcases qcU (qbl (qc9 t) t) j with hq|⟨_,hq⟩
  case inr=>rw [hq];trivial
  rw [hq,qdE]
  cases hb:tat t j with
  |box ty cs=>
   rw [show (⟨env,t⟩:St).t=t from rfl,hb] at he
   obtain ⟨b,us,h1,h2,h3,h4,h5⟩:=he
   refine ⟨b,us,h1,h2,h3,⟨by simp [h4.1],fun i c u hc hu=> ?_⟩,h5⟩
   rw [List.getElem?_map] at hc
   cases hq:cs[i]? with
   |none=>simp [hq] at hc
   |some q=>simp [hq] at hc;subst hc;exact hd 2 _ _ (h4.2 i q u hq hu)
  |row v e s b xs=>
   rw [show (⟨env,t⟩:St).t=t from rfl,hb] at he
   rw [hokT];exact he
  |dead=>trivial
  |ghost cs=>trivial
  |loop=>rw [show (⟨env,t⟩:St).t=t from rfl,hb] at he;exact he
  |gone=>trivial
theorem qag{env env':List S}{t t':List B}(ht:leT (qcg (qbl (qc9 t) t)) t')(h:leX (qbl (qlh t 3) env) env'):qc4 ⟨env,t⟩ ⟨env',t'⟩:=(qmq env t).trans (qa1 ht h)
end
section
variable {P:Program} {st:St} {K:St->Prop} {f:Operand} {args:List Operand} {dst:Option Tmp} {g:FuncId} {cap ds as res:List D}
theorem qaZ(hf:evx st.env f= .d (.f g cap))(hd:qdp (args.map (evx st.env))=some ds)(h:Fun P g as res)(he:ds++cap=as)(hk:K ⟨qdQ st.env dst (qh5 res),st.t⟩):qbH P f args dst st K:=by
 subst he;exact qaa hf hd h hk
theorem qiT{t:List B}{K:qcn->S->Option (Nat×B)->Prop}(h:Fun P g as res)(he:ds=as)(k:K ⟨[],none⟩ (qh5 res) none):qi2 P g ds t K:=by
 subst he;exact qab h k
end
end Go.Nv
end
section
namespace Go.Nv
open Go.RowKit
def qqs(T:Tb)(st:St):ResultVar->Option S
 | .tmp k=>some (lk st.env k)
 | .cell k ty=>match qhG T ty with
  |some i=>match lk st.env k with
   | .ptr b ver off=>match qcv st.t b with
    | .box _ cs=>match Nat.beq ver 0 with|true=>qiw i cs off|false=>none
    |_=>none
   | .d (.p off cs)=>match qnt i cs off with|some d=>some (.d d)|none=>none
   |_=>none
  |none=>none
def qh1(T:Tb)(st:St):List ResultVar->Option (List S)
 | [] =>some []
 |r::rs=>match qqs T st r with|some s=>(match qh1 T st rs with|some ss=>some (s::ss)|none=>none)|none=>none
def qz3:List S->S
 | [s] =>s
 |ss=> .tup ss
def qwV(T:Tb)(rs:List ResultVar)(k:Nat)(dst:Option Tmp)(K:St->Prop)(e:Ex)(st:St):Prop:=
 match e with
 | .exit _=>False
 |_=>match qh1 T st rs with
  |some ss=>match qcv st.t k with
   | .ghost cs=>frc ⟨qdQ cs dst (qz3 ss),qaW st.t k .dead⟩ K
   |_=>False
  |none=>False
def qcs(f:S):Option (FuncId×List S):=match f with
 | .d (.f g cap)=>some (g,qgs cap)
 | .clo g cap=>some (g,cap)
 |_=>none
section
variable {P:Program} {T:Tb} {old bs:Nat->Prop} {w0:Ctx} {W:World} {ι:Nat->Value}
theorem qk3(hT:qcM P T){st:St}{a:Act}(h:Rel old bs w0 ι st a W){r:ResultVar}{s:S}(hr:qqs T st r=some s):
  ∃v,(qbB a.tmps r).run P W= .ok v W/\qaC W ι (qap (tat st.t)) (okT bs (tat st.t) ι) s v:=by
 cases r with
 |tmp k=>
  have hs:=h.ev (.tmp k)
  simp only [qqs,Option.some.injEq] at hr
  subst hr
  rw [qkk]
  exact ⟨a.tmps.getD k undef,rfl,hs⟩
 |cell k ty=>
  have hs:=h.ev (.tmp k)
  simp only [qqs] at hr
  simp only [ev,Act.eval] at hs
  rw [qkk,qa4] at hr
  split at hr
  ·rename_i i hi
   have hi:=hT ty i hi
   split at hr
   ·rename_i b ver off hb
    rw [hb] at hs
    split at hr
    ·rename_i bt cs hk
     split at hr
     ·rename_i hver
      have hver:=Nat.eq_of_beq_eq_true hver
      subst hver
      rw [qfh hi] at hr
      obtain ⟨b',hb',hv⟩:=qcT hs (by simp [qap,hk,B.ver])
      have he:=h.tok.ent b
      rw [hk] at he
      obtain ⟨b2,us,hi2,_,hh,hsd,h1⟩:=he
      rw [hi2] at hb';simp [blk] at hb';subst hb'
      obtain ⟨v,hrun,hsv⟩:=qiu (P:=P) hi.und (qd1 hh) hsd h1 hr
      exact ⟨v,by simp [qbB,hv,asAddr,hrun],hsv⟩
     ·simp at hr
    ·simp at hr
   ·rename_i off cs hb
    rw [hb] at hs
    obtain ⟨b,base,us,hv,_,hok,hc,hd,h1⟩:=qw1 hs
    split at hr
    ·rename_i d hp
     rw [qfA hi] at hp
     simp at hr;subst hr
     obtain ⟨v,hrun,hdv⟩:=qjP (P:=P) hi.und hc hd h1 hp
     exact ⟨v,by simp [qbB,hv,asAddr,hrun],.d hdv⟩
    ·simp at hr
   ·simp at hr
  ·simp at hr
theorem qhN(hT:qcM P T){st:St}{a:Act}(h:Rel old bs w0 ι st a W): ∀{rs:List ResultVar} {ss:List S},qh1 T st rs=some ss->
  ∃vs,(rs.mapM (qbB a.tmps)).run P W= .ok vs W/\qao W ι (qap (tat st.t)) (okT bs (tat st.t) ι) ss vs
 | [],ss,hr=>by simp [qh1] at hr;subst hr;exact ⟨[],by simp,qao.nil _ _ _ _⟩
 |r::rs,ss,hr=>by
  unfold qh1 at hr
  split at hr
  ·rename_i s hs
   split at hr
   ·rename_i ss' hss
    simp at hr;subst hr
    obtain ⟨v,h1,h2⟩:=qk3 hT h hs
    obtain ⟨vs,h3,h4⟩:=qhN hT h hss
    exact ⟨v::vs,by simp [h1,h3],qao.cons h2 h4⟩
   ·simp at hr
  ·simp at hr
theorem qrc(hT:qcM P T){st:St}{a:Act}(h:Rel old bs w0 ι st a W){fn:Func}{ss:List S}(hr:qh1 T st fn.results.toList=some ss):
  ∃v,(results fn a.tmps).run P W= .ok v W/\qaC W ι (qap (tat st.t)) (okT bs (tat st.t) ι) (qz3 ss) v:=by
 obtain ⟨vs,hvs,hd⟩:=qhN hT h hr
 have e:results fn a.tmps=(do let vs<-fn.results.mapM (qbB a.tmps);pure (if h:vs.size=1 then vs[0] else .tuple vs)):=rfl
 have e2:fn.results.mapM (qbB a.tmps)=List.toArray<$>fn.results.toList.mapM (qbB a.tmps):=by
  rw [Array.mapM_eq_mapM_toList]
 refine ⟨_,by rw [e,e2];simp [hvs];rfl, ?_⟩
 match ss,vs,hd with
 | [d], [v],hd=>exact hd.2 0 d v rfl rfl
 | [], [],hd=>exact .tup hd.1 hd.2
 |d::d'::ds,v::v'::vs,hd=>exact .tup hd.1 hd.2
 | [],v::vs,hd=>have:=hd.1;simp at this
 |d::ds, [],hd=>have:=hd.1;simp at this
 | [d],v::v'::vs,hd=>have:=hd.1;simp at this
 |d::d'::ds, [v],hd=>have:=hd.1;simp at this
theorem qhu{τ:Nat->B}(hT:TOk W old bs ι τ)(hN:qbC old W)(k:Nat):qav old bs W ι τ W ι (at_ τ k .dead):=by
 have hst:qav old bs W ι τ W (at_ ι k (ι k)) (at_ τ k .dead):=by
  refine hT.upd hN k .dead (ι k) (row:=none) ⟨rfl,rfl,rfl,Nat.le_refl _,fun _ _ _=>rfl⟩ (by simp) (by simp [B.live]) (fun c hc=>⟨none,rfl,by simp⟩) (fun _ _ _=>trivial)
 have hι:at_ ι k (ι k)=ι:=by funext j;unfold at_;split<;>simp_all
 rw [hι] at hst
 exact hst
theorem ghost_step{τ:Nat->B}(hT:TOk W old bs ι τ)(hN:qbC old W)(k:Nat)(hk:τ k= .gone)(cs:List S):TOk W old bs ι (at_ τ k (.ghost cs))/\(∀{ss:List S} {us:List Value},qao W ι (qap τ) (okT bs τ ι) ss us->qao W ι (qap (at_ τ k (.ghost cs))) (okT bs (at_ τ k (.ghost cs)) ι) ss us)/\qaS ι ι (qap τ) (qap (at_ τ k (.ghost cs)))/\okT bs (at_ τ k (.ghost cs)) ι=okT bs τ ι:=by
 have hlive: ∀j,(at_ τ k (.ghost cs) j).live=(τ j).live:=fun j=>by unfold at_;split<;>simp_all [B.live]
 have hokT:okT bs (at_ τ k (.ghost cs)) ι=okT bs τ ι:=by funext b;unfold okT;simp only [hlive]
 have hv:qaS ι ι (qap τ) (qap (at_ τ k (.ghost cs))):=by
  intro j c hj
  unfold qap at*
  by_cases e:j=k
  ·subst e;rw [hk] at hj;simp [B.ver] at hj
  ·rw [qa2 _ _ e];exact ⟨c,hj,fun m hm=>⟨m,hm,Nat.le_refl _,fun _=>rfl⟩⟩
 have hkp: ∀{ss:List S} {us:List Value},qao W ι (qap τ) (okT bs τ ι) ss us->qao W ι (qap (at_ τ k (.ghost cs))) (okT bs (at_ τ k (.ghost cs)) ι) ss us:=fun h=>by
  rw [hokT];exact h.keep (fun _ _ _=>rfl) (fun _ h _=>h) hv
 refine ⟨⟨hT.bsn,fun j=> ?_,fun i j b hi hj=>by rw [hlive] at hi hj;exact hT.apart i j b hi hj⟩,hkp,hv,hokT⟩
 by_cases e:j=k
 ·subst e;rw [qan];trivial
 ·rw [qa2 _ _ e,hokT]
  exact (hT.ent j).keep (fun _ _ _=>rfl) (fun _ h _=>h) hv rfl (fun _ _ _=>rfl)
theorem TOk.up{old':Nat->Prop}{τ:Nat->B}(h:TOk W old bs ι τ)(h1: ∀b,old b->old' b)(h2: ∀b,old' b->old b\/ ∃o,W.heap[b]? =some o/\isC o=false):TOk W old' bs ι τ:=by
 refine ⟨fun b hb=>h.bsn b fun ho=>hb (h1 b ho),fun k=> ?_,h.apart⟩
 have key: ∀b,(τ k).live=true->blk (ι k)=some b-> ¬old b-> ¬old' b:=fun b hl hb hn ho=>by
  rcases h2 b ho with h3|⟨o,h3,h4⟩
  ·exact hn h3
  ·exact h.nonpriv h3 h4 k hl hb
 have he:=h.ent k
 revert he key
 cases hk:τ k with
 |box t cs=>
  rintro key ⟨b,us,e1,e2,e3⟩
  exact ⟨b,us,e1,key b rfl (by rw [e1];rfl) e2,e3⟩
 |row v e s bt xs=>
  rintro key ⟨us,e1,e2,e3,e4⟩
  exact ⟨us,e1,e2,e3,fun b hb=>key b rfl hb (e4 b hb)⟩
 |dead=>intro _ _;trivial
 |gone=>intro _ _;trivial
 |ghost=>intro _ _;trivial
 |loop=>intro _ h;exact h
theorem TOk.down{old':Nat->Prop}{τ:Nat->B}(h:TOk W old' bs ι τ)(h1: ∀b,old b->old' b)(h2: ∀b,¬old b->bs b):TOk W old bs ι τ:=by
 refine ⟨h2,fun k=> ?_,h.apart⟩
 have he:=h.ent k
 revert he
 cases hk:τ k with
 |box t cs=>
  rintro ⟨b,us,e1,e2,e3⟩
  exact ⟨b,us,e1,fun ho=>e2 (h1 b ho),e3⟩
 |row v e s bt xs=>
  rintro ⟨us,e1,e2,e3,e4⟩
  exact ⟨us,e1,e2,e3,fun b hb ho=>e4 b hb (h1 b ho)⟩
 |dead=>intro _;trivial
 |gone=>intro _;trivial
 |ghost=>intro _;trivial
 |loop=>intro h;exact h
theorem qdN.oldS{old':Nat->Prop}{vr:Nat->Option (Option Nat)}{ok:Nat->Prop}{g:Gh}{k:Nat}{e:B}(h:qdN W old ι vr ok g k e)(h1: ∀rec,W.heap[g.l]? =some (.loop rec)-> ¬old g.l-> ¬old' g.l):qdN W old' ι vr ok g k e:=by
 cases e with
 |loop s pend ps asg body cs=>
  obtain ⟨e1,e2,e3,e4,e5⟩:=h
  exact ⟨e1,e2,e3.imp id (h1 _ e4),e4,e5⟩
 |ghost cs=>exact h
 |_=>trivial
theorem Rel.push{st:St}{a:Act}(hr:Rel old bs w0 ι st a W)(r':Option Nat)(hr': ∀l,r'=some l->bs l/\ ∃rec,W.heap[l]? =some (.loop rec)){env:List S}{tm:Array Value}:
  ∃old' w1,w1.w=W/\w1.r=r'/\(∀b,old b->old' b)/\(∀k,k≠st.t.length->w1.gs k=w0.gs k)/\
  (qao W ι (qap (at_ (tat st.t) st.t.length (.ghost st.env))) (okT bs (at_ (tat st.t) st.t.length (.ghost st.env)) ι) env tm.toList->
   Rel old' bs w1 ι ⟨env,qaD st.t st.t.length (.ghost st.env)⟩ {tmps:=tm,defers:= [] } W)/\
  ∀{st':St} {a':Act} {W':World} {ι':Nat->Value} {cs:List S},Rel old' bs w1 ι' st' a' W'->tat st'.t st.t.length= .ghost cs->
   Rel old bs w0 ι' ⟨cs,qaD st'.t st.t.length .dead⟩ a W'/\ ∀{s:S} {v:Value},qaC W' ι' (qap (tat st'.t)) (okT bs (tat st'.t) ι') s v->qaC W' ι' (qap (tat (qaD st'.t st.t.length .dead))) (okT bs (tat (qaD st'.t st.t.length .dead)) ι') s v:=by
 obtain ⟨Ds,hd1,hd2,hd3⟩:=hr.defers
 generalize hk:st.t.length=k
 have hgone:tat st.t k= .gone:=by rw [<-hk];exact qca _
 refine ⟨fun b=>old b\/b∈Ds,⟨W,fun j=>if j=k then ⟨a.tmps.toList,0,0,0⟩ else w0.gs j,r'⟩,rfl,rfl,fun b=> .inl,fun k' hk'=>if_neg hk',fun henv=> ?_,fun {st' a' W' ι' cs} hr' hgk=> ?_⟩
 ·have hat:tat (qaD st.t k (.ghost st.env))=at_ (tat st.t) k (.ghost st.env):=qaE ..
  obtain ⟨g1,g2,g3,g4⟩:=ghost_step hr.tok hr.oldIn k hgone st.env
  have hup: ∀b,(old b\/b∈Ds)->old b\/ ∃o,W.heap[b]? =some o/\isC o=false:=fun b hb=>hb.imp id fun h=>⟨_,(hd3 b h).2,rfl⟩
  refine ⟨⟨[],rfl,List.nodup_nil,by simp⟩,fun b hb=> ?_,Fr.refl _ _, ?_, ?_,fun j=> ?_,fun i j hi hj hl=> ?_,hr'⟩
  ·rcases hb with h|h
   ·exact hr.oldIn b h
   ·exact (Array.getElem?_eq_some_iff.1 (hd3 b h).2).1
  ·show TOk W _ bs ι (tat (qaD st.t k (.ghost st.env)))
   rw [hat];exact g1.up (fun b=> .inl) hup
  ·show qao W ι (qap (tat (qaD st.t k (.ghost st.env)))) (okT bs (tat (qaD st.t k (.ghost st.env))) ι) env tm.toList
   rw [hat];exact henv
  ·show qdN W _ ι (qap (tat (qaD st.t k (.ghost st.env)))) (okT bs (tat (qaD st.t k (.ghost st.env))) ι) _ j (tat (qaD st.t k (.ghost st.env)) j)
   rw [hat]
   by_cases e:j=k
   ·subst e;rw [qan];simp only [if_true];exact g2 hr.env
   ·rw [qa2 _ _ e];simp only [if_neg e]
    refine qdN.oldS (qdN.keep (ok':=okT bs (at_ (tat st.t) k (.ghost st.env)) ι) (hr.gh j) (fun _ _ _=>rfl) (fun b hb _=>by rw [g4];exact hb) g3 (fun _=>rfl)) fun rec hrec hn=> ?_
    rintro (h|h)
    ·exact hn h
    ·rw [(hd3 _ h).2] at hrec;cases hrec
  ·have hne: ∀i,(tat (qaD st.t k (.ghost st.env)) i).isLoop=true->i≠k/\(tat st.t i).isLoop=true:=fun i hi=>by
    rw [hat] at hi
    by_cases e:i=k
    ·subst e;rw [qan] at hi;simp [B.isLoop] at hi
    ·rw [qa2 _ _ e] at hi;exact ⟨e,hi⟩
   obtain ⟨i1,i2⟩:=hne i hi
   obtain ⟨j1,j2⟩:=hne j hj
   simp only [if_neg i1,if_neg j1] at hl
   exact hr.lap i j i2 j2 hl
 ·have hds:=qhu hr'.tok hr'.oldIn k
  have hat2:tat (qaD st'.t k .dead)=at_ (tat st'.t) k .dead:=qaE ..
  have hgk':=hr'.gh k
  rw [hgk] at hgk'
  simp only [qdN,if_true] at hgk'
  have hdn: ∀b,old b->(old b\/b∈Ds):=fun b=> .inl
  refine ⟨⟨⟨Ds,hd1,hd2,fun D hD=>⟨(hd3 D hD).1,(hr'.fr.block D (.inr hD)).trans (hd3 D hD).2⟩⟩,fun b hb=>hr'.oldIn b (.inl hb),hr.fr.trans ⟨hr'.fr.os,hr'.fr.tape,hr'.fr.output,hr'.fr.size,fun b hb=>hr'.fr.block b (.inl hb),hr'.fr.loops⟩, ?_, ?_,fun j=> ?_,fun i j hi hj hl=> ?_,fun l hl=> ?_⟩,fun hs=> ?_⟩
  ·show TOk W' old bs ι' (tat (qaD st'.t k .dead))
   rw [hat2];exact hds.tok.down hdn hr.tok.bsn
  ·show qao W' ι' (qap (tat (qaD st'.t k .dead))) (okT bs (tat (qaD st'.t k .dead)) ι') cs a.tmps.toList
   rw [hat2];exact hds.sdenL hgk'
  ·show qdN W' old ι' (qap (tat (qaD st'.t k .dead))) (okT bs (tat (qaD st'.t k .dead)) ι') (w0.gs j) j (tat (qaD st'.t k .dead) j)
   rw [hat2]
   by_cases e:j=k
   ·subst e;rw [qan];trivial
   ·rw [qa2 _ _ e]
    have:=hr'.gh j
    simp only [if_neg e] at this
    exact qdN.oldS (qdN.keep this hds.keep hds.ok hds.ver fun _=>rfl) fun rec hrec hn ho=>hn (.inl ho)
  ·have hne: ∀i,(tat (qaD st'.t k .dead) i).isLoop=true->i≠k/\(tat st'.t i).isLoop=true:=fun i hi=>by
    rw [hat2] at hi
    by_cases e:i=k
    ·subst e;rw [qan] at hi;simp [B.isLoop] at hi
    ·rw [qa2 _ _ e] at hi;exact ⟨e,hi⟩
   obtain ⟨i1,i2⟩:=hne i hi
   obtain ⟨j1,j2⟩:=hne j hj
   refine hr'.lap i j i2 j2 ?_
   simp only [if_neg i1,if_neg j1]
   exact hl
  ·obtain ⟨h1,rec,h2⟩:=hr.rnd l hl
   exact ⟨h1,hr'.fr.loops l rec h2⟩
  ·rw [hat2];exact hds.sden hs
theorem qol{st:St}{a:Act}{r:Option Nat}{n:Nat}{o:Oper}{f:Operand}{args:List Operand}{g:FuncId}{cap:List S}(h:Rel old bs w0 ι st a W){ts:Array TypeId}(hop:o.op= .call {callee:= .value f,args:=args.toArray,argTypes:=ts})
  (hf:qcs (ev st.env f)=some (g,cap)) {R:Ending->World->Prop}
  (hc: ∀us,qao W ι (qap (tat st.t)) (okT bs (tat st.t) ι) (args.map (ev st.env)++cap) us->Calls P g us.toArray W R) (hb:qeS P g)
  {Kw:Act->World->Prop} {Q:Exit->Act->World->Prop} (hR: ∀e W',R e W'-> ∃v,e= .returned v/\Kw (a.put o.dst v) W'):o.wpIn (FW r) n P a W Kw Q:=by
 have hfv:=h.ev f
 obtain ⟨cs,hfe,hcs⟩: ∃us,a.eval f= .func (.func g) #[] (List.toArray us)/\qao W ι (qap (tat st.t)) (okT bs (tat st.t) ι) cap us:=by
  unfold qcs at hf
  split at hf
  ·rename_i g' cap' he
   simp at hf;obtain ⟨rfl,rfl⟩:=hf
   rw [he] at hfv
   obtain ⟨us,h1,h2⟩:=qv2 hfv
   have e: ∀ds,qgs ds=ds.map .d:=by intro ds;induction ds<;>simp [qgs, *]
   exact ⟨us,h1,by rw [e];exact qao.ofDen h2⟩
  ·rename_i g' cap' he
   simp at hf;obtain ⟨rfl,rfl⟩:=hf
   rw [he] at hfv
   generalize a.eval f=q at hfv
   cases hfv with
   |clo hl hh=>exact ⟨_,rfl,hl,hh⟩
  ·simp at hf
 have hargs:qao W ι (qap (tat st.t)) (okT bs (tat st.t) ι) (args.map (ev st.env)) (args.map a.eval):=by
  refine ⟨by simp,fun i c u hc hu=> ?_⟩
  rw [List.getElem?_map] at hc hu
  cases hq:args[i]? with
  |none=>simp [hq] at hc
  |some q=>simp [hq] at hc hu;subst hc;subst hu;exact h.ev q
 refine ⟨fun f _=>FW.fn r f, ?_⟩
 rw [Oper.semAt_eq _ _ _ (by rw [hop];simp)]
 have hrun:(execOp a.eval o).run P W= .ok (.enter g ((args.map a.eval++cs).toArray)) W:=by
  obtain ⟨fn,h1,h2,h3⟩:=hb
  obtain ⟨c,h2⟩:=Option.isSome_iff_exists.1 h2
  simp [execOp,hop,resolve,hfe,Deferred.ofValue,invoke,callFunc,h1,h2,h3]
  simp_all
 rw [hrun]
 refine ⟨by simp [FW,Fence.wide], ?_⟩
 refine CallsIn.mono (FW.calls (hc _ (hargs.append hcs))) fun e W' he=> ?_
 obtain ⟨v,rfl,hk⟩:=hR e W' he
 exact hk
theorem qhQ{st:St}{K:St->Prop}{f:Operand}{args:List Operand}{dst:Option Tmp}{g:FuncId}{cap:List S}{fn:Func}{c:Code}(hm:P.follows .mixedOrders=true)(hT:qcM P T)
  (hcal:qcs (evx st.env f)=some (g,cap)) (hf:P.funcs[g]? =some fn) (hb:fn.body=some c) (hn:(fn.name== "runtime.NumGoroutine")=false)
  (h:Ok P c ⟨qdP (qdP (qbl (evx st.env) args) cap) (qoL (fn.ntmps-(qb8 args+qb8 cap))),qaW st.t (qb8 st.t) (.ghost st.env)⟩ (qwV T fn.results.toList (qb8 st.t) dst K)):qbH P f args dst st K:=by
 unfold qbH
 rintro o ⟨ts,ho⟩ rfl
 rw [qbc] at hcal
 intro n old bs w0 a W ι Kw Q hr hK
 have happ: ∀xs ys:List S,qdP xs ys=xs++ys:=by intro xs ys;induction xs<;>simp [qdP, *]
 refine qol hr ho hcal (R:=fun e W'=> ∃v,e= .returned v/\Kw (a.put o.dst v) W') (hc:=fun us hd=> ?_) ⟨fn,hf,by rw [hb];rfl,hn⟩ (fun e W' he=>he)
 refine (callsIn_wide (n:=0)).1 (callsIn_of_wp_marks (F:=FW none) hf hb (FW.fn none g) ?_ rfl)
 rw [happ,happ,qf3,qbc,qhb,qaL,qaL,qaL,qb0] at h
 obtain ⟨old',w1,hw1,hr1,ho1,hgs,hpush,hpop⟩:=hr.push none (by simp) (env:=args.map (ev st.env)++cap++List.replicate (fn.ntmps-(args.length+cap.length)) .top) (tm:=us.toArray++Array.replicate (fn.ntmps-us.toArray.size) undef)
 have hrel:=hpush (by
  obtain ⟨g1,g2,g3,g4⟩:=ghost_step hr.tok hr.oldIn st.t.length (qca _) st.env
  have h1:=g2 hd
  have h2:qao W ι (qap (at_ (tat st.t) st.t.length (.ghost st.env))) (okT bs (at_ (tat st.t) st.t.length (.ghost st.env)) ι) (List.replicate (fn.ntmps-(args.length+cap.length)) .top) (List.replicate (fn.ntmps-us.length) undef):=by
   have hl:=hd.1
   simp at hl
   refine ⟨by simp [hl],fun i c u hc hu=> ?_⟩
   rw [List.getElem?_replicate] at hc
   split at hc
   ·simp at hc;subst hc;exact .top
   ·simp at hc
  simpa using h1.append h2)
 have hgo:=h 0 old' bs w1 _ W ι hrel
 rw [hr1] at hgo
 refine wpIn_mono hgo ?_
 rintro e a' W' ⟨x,st',ι',rfl,hfin,hr'⟩
 have hx:x= .ret\/x= .normal:=by cases x<;>simp [qwV] at hfin ⊢
 obtain ⟨ss,cs,hss,hgk,hk⟩: ∃ss cs,qh1 T st' fn.results.toList=some ss/\tat st'.t st.t.length= .ghost cs/\K ⟨qe7 cs o.dst (qz3 ss),qaD st'.t st.t.length .dead⟩:=by
  have hfin:(match qh1 T st' fn.results.toList with
   |some ss=>match qcv st'.t st.t.length with
    | .ghost cs=>frc ⟨qdQ cs o.dst (qz3 ss),qaW st'.t st.t.length .dead⟩ K
    |_=>False
   |none=>False):=by cases x<;>first|exact hfin.elim|exact hfin
  split at hfin
  ·rename_i ss hss
   rw [qa4,qb0,qbq] at hfin
   split at hfin
   ·rename_i cs hg
    rw [qaA] at hfin
    exact ⟨ss,cs,hss,hg,hfin⟩
   ·exact hfin.elim
  ·exact hfin.elim
 have hout:=hr'.out (n:=0) (P:=P) (fn:=fn) (R:=fun e W'=> ∃v,e= .returned v/\Kw (a.put o.dst v) W') fun W2 hr2=>by
  obtain ⟨v,hrun,hsv⟩:=qrc hT hr2 hss
  obtain ⟨hp1,hp2⟩:=hpop hr2 hgk
  refine ⟨v,hrun,v,rfl,hK _ _ _ ι' hk ?_⟩
  exact hp1.put (t:=qaD st'.t st.t.length .dead) (qav.refl hp1.tok) (hp2 hsv)
 rcases hx with rfl|rfl
 ·exact hout
 ·exact hout
end
end Go.Nv
end
section
namespace Go.Nv
open Go.RowKit
def qxL(rs:List ResultVar)(e:TypeId)(size:Nat)(res:List D)(x:Ex)(st:St):Prop:=
 match x with
 | .exit _=>False
 |_=>match rs with
  | [.tmp r] =>match lk st.env r with
   | .own k ver=>match qcv st.t k with
    | .row v e' size' _ xs=>ver=v/\e'=e/\size'=size/\xs=res
    |_=>False
   |_=>False
  |_=>False
theorem qiA{P:Program}{T:Tb}{g:FuncId}{fn:Func}{c:Code}{args res:List D}{e:TypeId}{size:Nat}(mu:Tmp->Bool)(hm:P.follows .mixedOrders=true)(hT:qcM P T)(hf:P.funcs[g]? =some fn)(hb:fn.body=some c)(hn:(fn.name== "runtime.NumGoroutine")=false)
  (h:go P T mu c (qeD args fn.ntmps) (qxL fn.results.toList e size res)):qty P g args e size res:=by
 have h:=qlS hm hT c _ _ h
 rw [qjK] at h
 refine ⟨⟨fn,hf,by rw [hb];rfl,hn⟩,fun w ok us hd=> ?_⟩
 refine (callsIn_wide (n:=0)).1 (callsIn_of_wp_marks (F:=FW none) hf hb (FW.fn none g) ?_ rfl)
 let old:Nat->Prop:=fun b=>b<w.heap.size
 let bs:Nat->Prop:=fun b=>ok b\/w.heap.size<=b
 have hrel:Rel old bs ⟨w,fun _=>⟨[],0,0,0⟩,none⟩ (fun _=>undef) (qiY args fn.ntmps) {tmps:=us.toArray++Array.replicate (fn.ntmps-us.toArray.size) undef,defers:= [] } w:=qkG hd
 refine wpIn_mono (h 0 old bs _ _ w _ hrel) ?_
 rintro e' a' W' ⟨x,st,ι,rfl,hfin,hr⟩
 have hx:x= .ret\/x= .normal:=by cases x<;>simp [qxL] at hfin ⊢
 obtain ⟨r,k,ver,bytes,hrs,hlk,hk⟩: ∃r k ver bytes,fn.results.toList= [.tmp r] /\lk st.env r= .own k ver/\tat st.t k= .row ver e size bytes res:=by
  have hfin:(match fn.results.toList with
   | [.tmp r] =>match lk st.env r with
    | .own k ver=>match qcv st.t k with
     | .row v e' size' _ xs=>ver=v/\e'=e/\size'=size/\xs=res
     |_=>False
    |_=>False
   |_=>False):=by cases x<;>first|exact hfin.elim|exact hfin
  split at hfin
  ·rename_i r hrs
   split at hfin
   ·rename_i k ver hlk
    rw [qa4] at hfin
    split at hfin
    ·rename_i v e' size' bytes xs hk
     obtain ⟨rfl,rfl,rfl,rfl⟩:=hfin
     exact ⟨r,k,ver,bytes,hrs,hlk,hk⟩
    ·exact hfin.elim
   ·exact hfin.elim
  ·exact hfin.elim
 have hout:=hr.out (n:=0) (P:=P) (fn:=fn) (R:=fun e' w'=> ∃v vs,e'= .returned v/\w'.ownsRow w.heap.size e size v res.length vs/\qaN w' (fun b=>(ok b\/w.heap.size<=b)/\blk v≠some b) (flat res) vs/\(∀(i:Nat) (u:Value),vs[i]? =some u->u.oneCell'=true)/\Below w.heap.size w w') fun W2 hr=>by
  have hs:=hr.ev (.tmp r)
  simp only [ev,Act.eval] at hs
  rw [qkk] at hlk
  rw [hlk] at hs
  have hv:=qcm hs (qa9 hk)
  have hrun:(results fn a'.tmps).run P W2= .ok (ι k) W2:=by
   have e1:results fn a'.tmps=(do let vs<-fn.results.mapM (qbB a'.tmps);pure (if h:vs.size=1 then vs[0] else .tuple vs)):=rfl
   have e2:fn.results.mapM (qbB a'.tmps)=List.toArray<$>fn.results.toList.mapM (qbB a'.tmps):=by
    rw [Array.mapM_eq_mapM_toList]
   rw [e1,e2,hrs]
   simp [qbB,hv]
  have he:=hr.tok.ent k
  rw [hk] at he
  obtain ⟨vs,ho,hden,h1,hnew⟩:=he
  have hbel:Below w.heap.size w W2:=⟨hr.fr.os,hr.fr.tape,hr.fr.output,hr.fr.size,hr.fr.block⟩
  have hown:W2.ownsRow w.heap.size e size (ι k) res.length vs:=by
   refine ⟨ho.1,ho.2.imp id ?_⟩
   rintro ⟨g',cap',cur,q1,q2,q3⟩
   exact ⟨g',cap',cur,q1,Nat.le_of_not_lt (hnew g' (by rw [q1];rfl)),q3⟩
  have hden':qaN W2 (fun b=>(ok b\/w.heap.size<=b)/\blk (ι k)≠some b) (flat res) vs:=
   hden.keep (fun _ _ _=>rfl) fun b hb _=>⟨hb.1,hb.2 k (by rw [hk];rfl)⟩
  exact ⟨ι k,hrun,ι k,vs,rfl,hown,hden',h1,hbel⟩
 rcases hx with rfl|rfl
 ·exact hout
 ·exact hout
end Go.Nv
end
section
namespace Go.Nv
open Go.RowKit
def apL{α:Type}:List α->List α->List α
 | [],ys=>ys
 |x::xs,ys=>x::apL xs ys
theorem qzt{α:Type}(xs ys:List α):apL xs ys=xs++ys:=by induction xs<;>simp [apL, *]
def fl:Code->List Code
 | .seq a b=>apL (fl a) (fl b)
 |c=> [c]
def OkL(P:Program):List Code->St->(Ex->St->Prop)->Prop
 | [],st,K=>K .normal st
 |c::cs,st,K=>Ok P c st (lpX (fun st'=>OkL P cs st' K) K)
def goL(P:Program)(T:Tb)(mu:Tmp->Bool):List Code->St->(Ex->St->Prop)->Prop
 | [],st,K=>K .normal st
 |c::cs,st,K=>go P T mu c st (qCF (goL P T mu cs) K)
section
variable {P:Program} {T:Tb}
theorem Ok.seq{a b:Code}{st:St}{K:Ex->St->Prop}(h:Ok P a st (lpX (fun st'=>Ok P b st' K) K)):Ok P (.seq a b) st K:=by
 intro n old bs w0 A W ι hr
 refine wpIn_seq (wpIn_mono (h n old bs w0 A W ι hr) ?_)
 rintro e a' W' ⟨x',st',ι',rfl,hk,hrel⟩
 cases x' with
 |normal=>exact hk n old bs w0 a' W' ι' hrel
 |exit id=>exact ⟨.exit id,st',ι',rfl,hk,hrel⟩
 |ret=>exact ⟨.ret,st',ι',rfl,hk,hrel⟩
theorem qiI: ∀{cs:List Code} {st:St} {K K':Ex->St->Prop},(∀e st,K e st->K' e st)->OkL P cs st K->OkL P cs st K'
 | [],st,K,K',hk,h=>hk _ _ h
 |c::cs,st,K,K',hk,h=>Ok.mono h fun e st' h'=>by
  cases e with
  |normal=>exact qiI hk h'
  |exit i=>exact hk _ _ h'
  |ret=>exact hk _ _ h'
theorem qdl: ∀{xs ys:List Code} {st:St} {K:Ex->St->Prop},OkL P (xs++ys) st K↔OkL P xs st (lpX (fun st'=>OkL P ys st' K) K)
 | [],ys,st,K=>Iff.rfl
 |c::xs,ys,st,K=>by
  constructor
  ·intro h
   refine Ok.mono h fun e st' h'=> ?_
   cases e with
   |normal=>exact qdl.1 h'
   |exit i=>exact h'
   |ret=>exact h'
  ·intro h
   refine Ok.mono h fun e st' h'=> ?_
   cases e with
   |normal=>exact qdl.2 h'
   |exit i=>exact h'
   |ret=>exact h'
theorem qx0: ∀{c:Code} {st:St} {K:Ex->St->Prop},OkL P (fl c) st K->Ok P c st K:=by
 intro c
 have one: ∀{c:Code} {st:St} {K:Ex->St->Prop},OkL P [c] st K->Ok P c st K:=by
  intro c st K h
  refine Ok.mono h fun e st' h'=> ?_
  cases e<;>exact h'
 induction c with
 |seq a b iha ihb=>
  intro st K h
  unfold fl at h
  rw [qzt,qdl] at h
  refine Ok.seq (Ok.mono (iha h) fun e st' h'=> ?_)
  cases e with
  |normal=>exact ihb h'
  |exit i=>exact h'
  |ret=>exact h'
 |_=>intro st K h;exact one h
theorem qip(hm:P.follows .mixedOrders=true)(hT:qcM P T){mu:Tmp->Bool}: ∀{cs:List Code} {st:St} {K:Ex->St->Prop},goL P T mu cs st K->OkL P cs st K
 | [],st,K,h=>h
 |c::cs,st,K,h=>Ok.mono (qlS hm hT c _ _ h) fun e st' h'=>by
  cases e with
  |normal=>exact qip hm hT h'
  |exit i=>exact h'
  |ret=>exact h'
theorem qmE{cs:List Code}{st st':St}{K:Ex->St->Prop}(hw:qc4 st st')(h:OkL P cs st' K)(hn:cs≠ []):OkL P cs st K:=by
 cases cs with
 |nil=>exact absurd rfl hn
 |cons c cs=>exact Ok.weak hw h
theorem qo3{α:Type}(n:Nat)(mu:Tmp->Bool)(J:α->St)(inv:α->Prop)(hm:P.follows .mixedOrders=true)(hT:qcM P T){c:Code}{st:St}{K:Ex->St->Prop}(hn:n<(fl c).length)
  (h1:goL P T mu ((fl c).take n) st (lpX (fun st'=> ∃y,inv y/\qc4 st' (J y)) K))
  (h2: ∀y,inv y->OkL P ((fl c).drop n) (J y) K):Ok P c st K:=by
 refine qx0 ?_
 rw [<-List.take_append_drop n (fl c),qdl]
 refine qiI (fun e st' hk=> ?_) (qip hm hT h1)
 cases e with
 |normal=>
  obtain ⟨y,hy,hw⟩:=hk
  refine qmE hw (h2 y hy) ?_
  intro h0
  have:=congrArg List.length h0
  simp at this;omega
 |exit i=>exact hk
 |ret=>exact hk
theorem qdX{α:Type}(n:Nat)(mu:Tmp->Bool)(J:α->St)(inv:α->Prop)(hm:P.follows .mixedOrders=true)(hT:qcM P T){cs:List Code}{st:St}{K:Ex->St->Prop}(hn:n<cs.length)
  (h1:goL P T mu (cs.take n) st (lpX (fun st'=> ∃y,inv y/\qc4 st' (J y)) K))
  (h2: ∀y,inv y->OkL P (cs.drop n) (J y) K):OkL P cs st K:=by
 rw [<-List.take_append_drop n cs,qdl]
 refine qiI (fun e st' hk=> ?_) (qip hm hT h1)
 cases e with
 |normal=>
  obtain ⟨y,hy,hw⟩:=hk
  refine qmE hw (h2 y hy) ?_
  intro h0
  have:=congrArg List.length h0
  simp at this;omega
 |exit i=>exact hk
 |ret=>exact hk
theorem qiF{g:FuncId}{fn:Func}{c:Code}{args res:List D}(hm:P.follows .mixedOrders=true)(hT:qcM P T)(hf:P.funcs[g]? =some fn)(hb:fn.body=some c)(hn:(fn.name== "runtime.NumGoroutine")=false)
  (h:Ok P c (qeD args fn.ntmps) (qCj T fn.results.toList res)):Fun P g args res:=by
 refine qzg.fn ?_
 have h2:Ok P c (qeD args fn.ntmps) (qAk T fn.results.toList (· =res)):=h.mono fun e st hk=>by
  cases e with
  |exit i=>exact hk
  |normal=>exact ⟨res,hk,rfl⟩
  |ret=>exact ⟨res,hk,rfl⟩
 exact qif hm hT hf hb hn h2
theorem qoX{α:Type}{st:St}{K:Ex->St->Prop}{body:Code}(I:α->St)(inv:α->Prop)(μ:α->Nat)(x0:α)(h0:inv x0)(hw:qc4 st (I x0))
  (h: ∀x,inv x->Ok P body (I x) (lpX (fun st'=> ∃y,inv y/\μ y<μ x/\qc4 st' (I y)) K)):OkC P (.loop body) st K:=by
 refine qdc (qqZ (fun x:{x:α//inv x}=>I x.1) (fun x=>μ x.1) ⟨x0,h0⟩ hw ?_)
 rintro ⟨x,hx⟩
 refine (h x hx).mono ?_
 rintro e st' hk
 cases e with
 |normal=>obtain ⟨y,h1,h2,h3⟩:=hk;exact ⟨⟨y,h1⟩,h2,h3⟩
 |exit i=>exact hk
 |ret=>exact hk
end
end Go.Nv
end
section
namespace Go.Nv
open Go.RowKit
def qrb:List Tmp->List S->List S->List S
 |p::ps,x::xs,env=>qrb ps xs (st1 env p x)
 |_,_,env=>env
def qy9(k:Nat)(K:Ex->St->Prop)(e:Ex)(st:St):Prop:=
 match e with
 | .exit _=>False
 |_=>match qcv st.t k with
  | .loop s pend _ _ _ cs=>match s,pend with
   | .ready,none=>frc ⟨cs,qaW st.t k .dead⟩ (K .normal)
   | .done,some (.exit i)=>frc ⟨cs,qaW st.t k .dead⟩ (K (.exit i))
   | .done,some .ret=>frc ⟨cs,qaW st.t k .dead⟩ (K .ret)
   |_,_=>False
  |_=>False
def qq8(k:Nat)(C:St->Prop)(e:Ex)(st:St):Prop:=
 match e with
 | .normal=>match qcv st.t k with
  | .loop s pend ps asg body cs=>match s with
   | .ready=>frc ⟨st.env,qaW st.t k (.loop .busy pend ps asg body cs)⟩ C
   |_=>False
  |_=>False
 |_=>False
def qyR(k kk:Nat)(dst:Option Tmp)(K:St->Prop)(e:Ex)(st:St):Prop:=
 match qcv st.t kk with
 | .ghost env=>match qcv st.t k with
  | .loop s p ps asg body cs=>match s with
   | .busy=>match e with
    | .normal=>frc ⟨qdQ env dst tt',qaW (qaW st.t k (.loop .ready none ps asg body cs)) kk .dead⟩ K
    | .exit i=>frc ⟨qdQ env dst ff',qaW (qaW st.t k (.loop .done (some (.exit i)) ps asg body cs)) kk .dead⟩ K
    | .ret=>frc ⟨qdQ env dst ff',qaW (qaW st.t k (.loop .done (some .ret) ps asg body cs)) kk .dead⟩ K
   |_=>False
  |_=>False
 |_=>False
section
variable {P:Program} {T:Tb} {old bs:Nat->Prop} {w0:Ctx} {W:World} {ι:Nat->Value}
theorem Rel.turnLoop{st:St}{a:Act}(h:Rel old bs w0 ι st a W){k:Nat}{s s':LoopState}{p p':Option Code}{ps:Array Tmp}{asg body:Code}{cs:List S}(hk:tat st.t k= .loop s p ps asg body cs)(hno: ¬old (w0.gs k).l):
  Rel old bs w0 ι ⟨st.env,qaD st.t k (.loop s' p' ps asg body cs)⟩ a (W.putObj (w0.gs k).l (.loop {state:=s',pending:=p',fn:=(w0.gs k).fn,tmps:=(w0.gs k).tmps.toArray,params:=ps,assign:=asg,body:=body,defers:=(w0.gs k).D})):=by
 have hg:=h.gh k
 rw [hk] at hg
 obtain ⟨h1,h2,_,h4,h5⟩:=hg
 have ht:qnP (w0.gs k).l W (W.putObj (w0.gs k).l (.loop {state:=s',pending:=p',fn:=(w0.gs k).fn,tmps:=(w0.gs k).tmps.toArray,params:=ps,assign:=asg,body:=body,defers:=(w0.gs k).D})):=
  .putObj h4 rfl rfl fun _ _=>⟨_,rfl⟩
 have hat:tat (qaD st.t k (.loop s' p' ps asg body cs))=at_ (tat st.t) k (.loop s' p' ps asg body cs):=qaE ..
 have hlive: ∀j,(at_ (tat st.t) k (.loop s' p' ps asg body cs) j).live=(tat st.t j).live:=fun j=>by
  unfold at_;split
  ·rename_i e;subst e;rw [hk];rfl
  ·rfl
 have hver:qap (at_ (tat st.t) k (.loop s' p' ps asg body cs))=qap (tat st.t):=by
  funext j;unfold qap at_;split
  ·rename_i e;subst e;rw [hk];rfl
  ·rfl
 have hokT:okT bs (at_ (tat st.t) k (.loop s' p' ps asg body cs)) ι=okT bs (tat st.t) ι:=by funext b;unfold okT;simp only [hlive]
 have hloop: ∀j,(at_ (tat st.t) k (.loop s' p' ps asg body cs) j).isLoop=(tat st.t j).isLoop:=fun j=>by
  unfold at_;split
  ·rename_i e;subst e;rw [hk];rfl
  ·rfl
 obtain ⟨Ds,hd1,hd2,hd3⟩:=h.defers
 refine ⟨⟨Ds,hd1,hd2,fun D hD=>⟨(hd3 D hD).1,(ht.rest D fun e=> ?_).trans (hd3 D hD).2⟩⟩,h.oldIn.turn ht,h.fr.trans (ht.fr hno), ?_, ?_,fun j=> ?_,fun i j hi hj=> ?_,fun l hl=> ?_⟩
 ·subst e;rw [(hd3 _ hD).2] at h4;cases h4
 ·show TOk _ old bs ι (tat (qaD st.t k (.loop s' p' ps asg body cs)))
  rw [hat]
  have hT:=h.tok.turn ht
  refine ⟨hT.bsn,fun j=> ?_,fun i j b hi hj=>by rw [hlive] at hi hj;exact hT.apart i j b hi hj⟩
  rw [hver,hokT]
  have:=hT.ent j
  by_cases e:j=k
  ·subst e;rw [qan];exact ⟨_,h1⟩
  ·rw [qa2 _ _ e];exact this
 ·show qao _ ι (qap (tat (qaD st.t k (.loop s' p' ps asg body cs)))) (okT bs (tat (qaD st.t k (.loop s' p' ps asg body cs))) ι) st.env a.tmps.toList
  rw [hat,hver,hokT];exact h.env.turn ht
 ·show qdN _ old ι (qap (tat (qaD st.t k (.loop s' p' ps asg body cs)))) (okT bs (tat (qaD st.t k (.loop s' p' ps asg body cs))) ι) (w0.gs j) j (tat (qaD st.t k (.loop s' p' ps asg body cs)) j)
  rw [hat,hver,hokT]
  by_cases e:j=k
  ·subst e;rw [qan]
   exact ⟨h1,h2,.inr hno,World.putObj_heap_same (Array.getElem?_eq_some_iff.1 h4).1,h5.turn ht⟩
  ·rw [qa2 _ _ e]
   exact qdN.turn ht (h.gh j) fun hl he=>e (h.lap j k hl (by rw [hk];rfl) he)
 ·have hi:(tat (qaD st.t k (.loop s' p' ps asg body cs)) i).isLoop=true:=hi
  have hj:(tat (qaD st.t k (.loop s' p' ps asg body cs)) j).isLoop=true:=hj
  rw [hat,hloop] at hi hj
  exact h.lap i j hi hj
 ·obtain ⟨e1,rec,e2⟩:=h.rnd l hl
  by_cases e:l=(w0.gs k).l
  ·subst e;exact ⟨e1,ht.lp _ h4⟩
  ·exact ⟨e1,rec,(ht.rest l e).trans e2⟩
theorem Rel.pushL{st:St}{a:Act}(hr:Rel old bs w0 ι st a W){l D:Nat}{fn':FuncId}{ps:Array Tmp}{asg body:Code}
  (hl:W.heap[l]? =some (.loop {state:= .ready,pending:=none,fn:=fn',tmps:=a.tmps,params:=ps,assign:=asg,body:=body,defers:=D})) (hno: ¬old l) (hlap: ∀j,(tat st.t j).isLoop=true->(w0.gs j).l≠l)
  {env:List S} {tm:Array Value}:
  ∃old' w1 ι1,w1.w=W/\w1.r=none/\(w1.gs st.t.length).l=l/\(w1.gs st.t.length).tmps=a.tmps.toList/\(w1.gs st.t.length).fn=fn'/\(w1.gs st.t.length).D=D/\ι1 st.t.length= .func (.yield l) #[] #[] /\
  (∀{s:S} {v:Value},qaC W ι (qap (tat st.t)) (okT bs (tat st.t) ι) s v->qaC W ι1 (qap (at_ (tat st.t) st.t.length (.loop .ready none ps asg body st.env))) (okT bs (at_ (tat st.t) st.t.length (.loop .ready none ps asg body st.env)) ι1) s v)/\
  (qao W ι1 (qap (at_ (tat st.t) st.t.length (.loop .ready none ps asg body st.env))) (okT bs (at_ (tat st.t) st.t.length (.loop .ready none ps asg body st.env)) ι1) env tm.toList->
   Rel old' bs w1 ι1 ⟨env,qaD st.t st.t.length (.loop .ready none ps asg body st.env)⟩ {tmps:=tm,defers:= [] } W)/\
  ∀{st':St} {a':Act} {W':World} {ι':Nat->Value} {s:LoopState} {p:Option Code} {cs:List S} {ps':Array Tmp} {asg' body':Code},Rel old' bs w1 ι' st' a' W'->tat st'.t st.t.length= .loop s p ps' asg' body' cs->s≠ .busy->
   (∃rec,W'.heap[l]? =some (.loop rec)/\rec.state=s/\rec.pending=p/\Rel old bs w0 ι' ⟨cs,qaD st'.t st.t.length .dead⟩ a (W'.putObj l (.loop {rec with state:= .exhausted}))):=by
 obtain ⟨Ds,hd1,hd2,hd3⟩:=hr.defers
 generalize hk:st.t.length=k
 have hgone:tat st.t k= .gone:=by rw [<-hk];exact qca _
 generalize hnb:B.loop .ready none ps asg body st.env=nb
 have hat:tat (qaD st.t k nb)=at_ (tat st.t) k nb:=qaE ..
 have hlive: ∀j,(at_ (tat st.t) k nb j).live=(tat st.t j).live:=fun j=>by
  unfold at_;split
  ·rename_i e;subst e;rw [hgone, <-hnb];rfl
  ·rfl
 obtain ⟨ι1,hι1⟩: ∃ι1,ι1=at_ ι k (.func (.yield l) #[] #[]):=⟨_,rfl⟩
 have hi1: ∀j,(tat st.t j).live=true->ι1 j=ι j:=fun j hj=>by
  rw [hι1];refine qa2 _ _ fun e=> ?_
  subst e;rw [hgone] at hj;simp [B.live] at hj
 have hokT:okT bs (at_ (tat st.t) k nb) ι1=okT bs (tat st.t) ι:=by
  funext b;unfold okT;simp only [hlive]
  apply propext
  exact ⟨fun ⟨h1,h2⟩=>⟨h1,fun j hj=>by rw [<-hi1 j hj];exact h2 j hj⟩,fun ⟨h1,h2⟩=>⟨h1,fun j hj=>by rw [hi1 j hj];exact h2 j hj⟩⟩
 have hv:qaS ι ι1 (qap (tat st.t)) (qap (at_ (tat st.t) k nb)):=by
  intro j c hj
  unfold qap at*
  by_cases e:j=k
  ·subst e;rw [hgone] at hj;simp [B.ver] at hj
  ·rw [qa2 _ _ e];exact ⟨c,hj,fun m hm=>⟨m,hm,Nat.le_refl _,fun _=>by rw [hι1];exact qa2 _ _ e⟩⟩
 have hkp1: ∀{ss:S} {us:Value},qaC W ι (qap (tat st.t)) (okT bs (tat st.t) ι) ss us->qaC W ι1 (qap (at_ (tat st.t) k nb)) (okT bs (at_ (tat st.t) k nb) ι1) ss us:=fun h=>by
  rw [hokT];exact h.keep (fun _ _ _=>rfl) (fun _ h _=>h) hv
 have hkp: ∀{ss:List S} {us:List Value},qao W ι (qap (tat st.t)) (okT bs (tat st.t) ι) ss us->qao W ι1 (qap (at_ (tat st.t) k nb)) (okT bs (at_ (tat st.t) k nb) ι1) ss us:=fun h=>by
  rw [hokT];exact h.keep (fun _ _ _=>rfl) (fun _ h _=>h) hv
 refine ⟨fun b=>old b\/b∈Ds,⟨W,fun j=>if j=k then ⟨a.tmps.toList,l,fn',D⟩ else w0.gs j,none⟩,ι1,rfl,rfl,by simp,by simp,by simp,by simp,by rw [hι1];exact qan _ _ _,hkp1,fun henv=> ?_,fun {st' a' W' ι' s p cs ps' asg' body'} hr' hgk hs=> ?_⟩
 ·have hup: ∀b,(old b\/b∈Ds)->old b\/ ∃o,W.heap[b]? =some o/\isC o=false:=fun b hb=>hb.imp id fun h=>⟨_,(hd3 b h).2,rfl⟩
  have hT:TOk W old bs ι1 (at_ (tat st.t) k nb):=by
   refine ⟨hr.tok.bsn,fun j=> ?_,fun i j b hi hj h1 h2=> ?_⟩
   ·by_cases e:j=k
    ·subst e;rw [qan, <-hnb];exact ⟨l,by rw [hι1];exact qan _ _ _⟩
    ·rw [qa2 _ _ e,hokT]
     exact (hr.tok.ent j).keep (fun _ _ _=>rfl) (fun _ h _=>h) hv (by rw [hι1];exact qa2 _ _ e) (fun _ _ _=>rfl)
   ·rw [hlive] at hi hj
    rw [hi1 i hi] at h1;rw [hi1 j hj] at h2
    exact hr.tok.apart i j b hi hj h1 h2
  refine ⟨⟨[],rfl,List.nodup_nil,by simp⟩,fun b hb=> ?_,Fr.refl _ _, ?_, ?_,fun j=> ?_,fun i j hi hj hl'=> ?_,fun l hl=>by cases hl⟩
  ·rcases hb with h|h
   ·exact hr.oldIn b h
   ·exact (Array.getElem?_eq_some_iff.1 (hd3 b h).2).1
  ·show TOk W _ bs ι1 (tat (qaD st.t k nb))
   rw [hat];exact hT.up (fun b=> .inl) hup
  ·show qao W ι1 (qap (tat (qaD st.t k nb))) (okT bs (tat (qaD st.t k nb)) ι1) env tm.toList
   rw [hat];exact henv
  ·show qdN W _ ι1 (qap (tat (qaD st.t k nb))) (okT bs (tat (qaD st.t k nb)) ι1) _ j (tat (qaD st.t k nb) j)
   rw [hat]
   by_cases e:j=k
   ·subst e;rw [qan, <-hnb];simp only [if_true]
    refine ⟨by rw [hι1];exact qan _ _ _, ?_,.inr ?_,by simpa using hl, ?_⟩
    ·rw [hnb,hokT];exact hr.tok.okNon hl rfl (hr.tok.bsn _ hno)
    ·rintro (h|h)
     ·exact hno h
     ·rw [(hd3 _ h).2] at hl;cases hl
    ·rw [hnb];exact hkp hr.env
   ·rw [qa2 _ _ e];simp only [if_neg e]
    refine qdN.oldS (qdN.keep (ok':=okT bs (at_ (tat st.t) k nb) ι1) (hr.gh j) (fun _ _ _=>rfl) (fun b hb _=>by rw [hokT];exact hb) hv (fun _=>by rw [hι1];exact qa2 _ _ e)) fun rec hrec hn=> ?_
    rintro (h|h)
    ·exact hn h
    ·rw [(hd3 _ h).2] at hrec;cases hrec
  ·have hi:(tat (qaD st.t k nb) i).isLoop=true:=hi
   have hj:(tat (qaD st.t k nb) j).isLoop=true:=hj
   rw [hat] at hi hj
   by_cases ei:i=k
   ·by_cases ej:j=k
    ·rw [ei,ej]
    ·rw [qa2 _ _ ej] at hj
     simp only [if_pos ei,if_neg ej] at hl'
     exact absurd hl'.symm (hlap j hj)
   ·rw [qa2 _ _ ei] at hi
    by_cases ej:j=k
    ·simp only [if_neg ei,if_pos ej] at hl'
     exact absurd hl' (hlap i hi)
    ·rw [qa2 _ _ ej] at hj
     simp only [if_neg ei,if_neg ej] at hl'
     exact hr.lap i j hi hj hl'
 ·have hgk0:=hr'.gh k
  rw [hgk] at hgk0
  have e0:(if k=k then (⟨a.tmps.toList,l,fn',D⟩:Gh) else w0.gs k)=⟨a.tmps.toList,l,fn',D⟩:=if_pos rfl
  simp only [e0] at hgk0
  obtain ⟨q1,q2,q3,q4,q5⟩:=hgk0
  simp only [if_true] at q1 q2 q3 q4 q5
  have hno': ¬(old l\/l∈Ds):=q3.resolve_left hs
  refine ⟨_,q4,rfl,rfl, ?_⟩
  have h3:=hr'.turnLoop (s':= .exhausted) (p':=p) hgk (by simpa using hno')
  simp only [if_true] at h3
  have hg3:tat (qaD st'.t k (.loop .exhausted p ps' asg' body' cs)) k= .loop .exhausted p ps' asg' body' cs:=by rw [qaE];exact qan _ _ _
  generalize hW:W'.putObj l (.loop {state:= .exhausted,pending:=p,fn:=fn',tmps:=a.tmps.toList.toArray,params:=ps',assign:=asg',body:=body',defers:=D})=W3 at h3
  have hds:=qhu h3.tok h3.oldIn k
  have hat3:tat (qaD (qaD st'.t k (.loop .exhausted p ps' asg' body' cs)) k .dead)=at_ (tat (qaD st'.t k (.loop .exhausted p ps' asg' body' cs))) k .dead:=qaE ..
  have hat2:tat (qaD st'.t k .dead)=at_ (tat (qaD st'.t k (.loop .exhausted p ps' asg' body' cs))) k .dead:=by
   rw [qaE,qaE]
   funext j
   unfold at_;split<;>rfl
  have hgk':=h3.gh k
  rw [hg3] at hgk'
  simp only [if_true] at hgk'
  have hdn: ∀b,old b->(old b\/b∈Ds):=fun b=> .inl
  refine ⟨⟨Ds,hd1,hd2,fun D' hD=>⟨(hd3 D' hD).1,(h3.fr.block D' (.inr hD)).trans (hd3 D' hD).2⟩⟩,fun b hb=>h3.oldIn b (.inl hb),hr.fr.trans ⟨h3.fr.os,h3.fr.tape,h3.fr.output,h3.fr.size,fun b hb=>h3.fr.block b (.inl hb),h3.fr.loops⟩, ?_, ?_,fun j=> ?_,fun i j hi hj hl=> ?_,fun l hl=> ?_⟩
  ·show TOk W3 old bs ι' (tat (qaD st'.t k .dead))
   rw [hat2];exact hds.tok.down hdn hr.tok.bsn
  ·show qao W3 ι' (qap (tat (qaD st'.t k .dead))) (okT bs (tat (qaD st'.t k .dead)) ι') cs a.tmps.toList
   rw [hat2];exact hds.sdenL hgk'.2.2.2.2
  ·show qdN W3 old ι' (qap (tat (qaD st'.t k .dead))) (okT bs (tat (qaD st'.t k .dead)) ι') (w0.gs j) j (tat (qaD st'.t k .dead) j)
   rw [hat2]
   by_cases e:j=k
   ·subst e;rw [qan];trivial
   ·rw [qa2 _ _ e]
    have:=h3.gh j
    simp only [if_neg e] at this
    exact qdN.oldS (qdN.keep this hds.keep hds.ok hds.ver fun _=>rfl) fun rec hrec hn ho=>hn (.inl ho)
  ·have hne: ∀i,(tat (qaD st'.t k .dead) i).isLoop=true->i≠k/\(tat (qaD st'.t k (.loop .exhausted p ps' asg' body' cs)) i).isLoop=true:=fun i hi=>by
    rw [hat2] at hi
    by_cases e:i=k
    ·subst e;rw [qan] at hi;simp [B.isLoop] at hi
    ·rw [qa2 _ _ e] at hi;exact ⟨e,hi⟩
   obtain ⟨i1,i2⟩:=hne i hi
   obtain ⟨j1,j2⟩:=hne j hj
   refine h3.lap i j i2 j2 ?_
   simp only [if_neg i1,if_neg j1]
   exact hl
  ·obtain ⟨h1,rec,h2⟩:=hr.rnd l hl
   exact ⟨h1,h3.fr.loops l rec h2⟩
end
end Go.Nv
end
section
namespace Go.Nv
open Go.RowKit
section
variable {P:Program} {T:Tb} {old bs:Nat->Prop} {w0:Ctx} {W:World} {ι:Nat->Value}
theorem Rel.fval{st:St}{a:Act}(h:Rel old bs w0 ι st a W){f:Operand}{g:FuncId}{cap:List S}(hf:qcs (Nv.ev st.env f)=some (g,cap)):
  ∃us,a.eval f= .func (.func g) #[] (List.toArray us)/\qao W ι (qap (tat st.t)) (okT bs (tat st.t) ι) cap us:=by
 have hfv:=h.ev f
 unfold qcs at hf
 split at hf
 ·rename_i g' cap' he
  simp at hf;obtain ⟨rfl,rfl⟩:=hf
  rw [he] at hfv
  obtain ⟨us,h1,h2⟩:=qv2 hfv
  have e: ∀ds,qgs ds=ds.map .d:=by intro ds;induction ds<;>simp [qgs, *]
  exact ⟨us,h1,by rw [e];exact qao.ofDen h2⟩
 ·rename_i g' cap' he
  simp at hf;obtain ⟨rfl,rfl⟩:=hf
  rw [he] at hfv
  generalize a.eval f=q at hfv
  cases hfv with
  |clo hl hh=>exact ⟨_,rfl,hl,hh⟩
 ·simp at hf
theorem Rel.enterLoop{st:St}{a:Act}(h:Rel old bs w0 ι st a W)(fn:FuncId)(ps:Array Tmp)(asg body:Code):
  ∃l mark W1 D,(Instr.enterLoop fn a.tmps ps asg body w0.r).run P W= .ok (l,mark) W1/\W.heap.size<=l/\
   W1.heap[l]? =some (.loop {state:= .ready,pending:=none,fn:=fn,tmps:=a.tmps,params:=ps,assign:=asg,body:=body,defers:=D})/\
   Rel old bs w0 ι st {a with defers:=mark++a.defers} W1/\ ∀f,a.eval f=({a with defers:=mark++a.defers}:Act).eval f:=by
 have fin: ∀(W1:World) (mark:List Deferred),W.grownBy W1 none->qzy old W1 (mark++a.defers)->Rel old bs w0 ι st {a with defers:=mark++a.defers} W1:=fun W1 mark hg hd=>by
  have hst:=h.tok.quiet h.oldIn hg
  exact ⟨hd,h.oldIn.step hst.fr.size,h.fr.trans hst.fr,hst.tok,hst.sdenL h.env,h.ghStep hst,h.lapStep hst,h.rndStep hst⟩
 obtain ⟨Ds,hd1,hd2,hd3⟩:=h.defers
 cases hr:w0.r with
 |none=>
  refine ⟨W.heap.size+1,_,_,W.heap.size,run_enterLoop_outer _ _ _ _ _,by omega, ?_,fin _ _ ?_ ?_,fun f=>by cases f<;>rfl⟩
  ·have:=World.alloc_heap_new (W.alloc (.deferred (some []))) (.loop {state:= .ready,pending:=none,fn,tmps:=a.tmps,params:=ps,assign:=asg,body,defers:=W.heap.size})
   rwa [World.size_alloc] at this
  ·exact (World.grownBy_alloc W _ none).trans (World.grownBy_alloc _ _ none)
  ·refine ⟨W.heap.size::Ds,by simp [hd1],List.nodup_cons.2 ⟨fun hm=> ?_,hd2⟩,fun D hD=> ?_⟩
   ·have:=(Array.getElem?_eq_some_iff.1 (hd3 _ hm).2).1;omega
   ·have hk: ∀b,b<W.heap.size->((W.alloc (.deferred (some []))).alloc (.loop {state:= .ready,pending:=none,fn,tmps:=a.tmps,params:=ps,assign:=asg,body,defers:=W.heap.size})).heap[b]? =W.heap[b]? :=fun b hb=>
     ((World.grownBy_alloc W (.deferred (some [])) none).trans (World.grownBy_alloc _ _ none)).block b hb (by simp)
    rcases List.mem_cons.1 hD with rfl|hD
    ·refine ⟨fun ho=>absurd (h.oldIn _ ho) (by omega), ?_⟩
     rw [(World.grownBy_alloc (W.alloc (.deferred (some []))) (.loop {state:= .ready,pending:=none,fn,tmps:=a.tmps,params:=ps,assign:=asg,body,defers:=W.heap.size}) none).block _ (by rw [World.size_alloc];omega) (by simp)]
     exact World.alloc_heap_new W _
    ·exact ⟨(hd3 D hD).1,(hk D (Array.getElem?_eq_some_iff.1 (hd3 D hD).2).1).trans (hd3 D hD).2⟩
 |some l0=>
  obtain ⟨_,rec,h2⟩:=h.rnd l0 hr
  refine ⟨W.heap.size,_,_,rec.defers,run_enterLoop_inner h2 _ _ _ _ _,by omega,World.alloc_heap_new W _,fin _ _ (World.grownBy_alloc W _ none) ?_,fun f=>by cases f<;>rfl⟩
  refine ⟨Ds,by simp [hd1],hd2,fun D hD=>⟨(hd3 D hD).1, ?_⟩⟩
  rw [(World.grownBy_alloc W _ none).block _ (Array.getElem?_eq_some_iff.1 (hd3 D hD).2).1 (by simp)]
  exact (hd3 D hD).2
theorem qng{st:St}{K:Ex->St->Prop}{f:Operand}{ps:Array Tmp}{asg body:Code}{g:FuncId}{cap:List S}{fn:Func}{c:Code}
  (hcal:qcs (evx st.env f)=some (g,cap)) (hf:P.funcs[g]? =some fn) (hb:fn.body=some c) (hn:(fn.name== "runtime.NumGoroutine")=false) (hres:fn.results= #[])
  (h:Ok P c ⟨.own (qb8 st.t) 0::qdP cap (qoL (fn.ntmps-(1+qb8 cap))),qaW st.t (qb8 st.t) (.loop .ready none ps asg body st.env)⟩ (qy9 (qb8 st.t) K)):Ok P (.rangeFunc f ps asg body) st K:=by
 intro n old bs w0 a W ι hr
 rw [qbc] at hcal
 have happ: ∀xs ys:List S,qdP xs ys=xs++ys:=by intro xs ys;induction xs<;>simp [qdP, *]
 rw [happ,qhb,qaL,qaL,qb0] at h
 refine wpIn_rangeFunc (fun fn' _=> ?_)
 obtain ⟨l,mark,W1,D,he,hl1,hl2,hr1,hev⟩:=hr.enterLoop (P:=P) fn' ps asg body
 obtain ⟨us,hfe,hcap⟩:=hr1.fval hcal
 rw [<-hev] at hfe
 have hgl: ∀j,(tat st.t j).isLoop=true->(w0.gs j).l≠l:=fun j hj e=>by
  have:=hr.gh j
  cases hq:tat st.t j with
  |loop s pend ps' asg' body' cs=>rw [hq] at this;have:=(Array.getElem?_eq_some_iff.1 this.2.2.2.1).1;omega
  |_=>rw [hq] at hj;simp [B.isLoop] at hj
 have hno: ¬old l:=fun ho=>absurd (hr.oldIn _ ho) (by omega)
 obtain ⟨old',w1,ι1,q1,q2,q3,q4,q5,q6,q7,q8,hpush,hpop⟩:=hr1.pushL hl2 hno hgl (env:= .own st.t.length 0::(cap++List.replicate (fn.ntmps-(1+cap.length)) .top)) (tm:=(#[.func (.yield l) #[] #[]] ++us.toArray)++Array.replicate (fn.ntmps-(#[Value.func (.yield l) #[] #[]] ++us.toArray).size) undef)
 have hrun:(invoke (.fn (.func g) us.toArray) #[.func (.yield l) #[] #[]]).run P W1= .ok (.enter g (#[.func (.yield l) #[] #[]] ++us.toArray)) W1:=by
  simp [invoke,callFunc,hf,hb,hn]
  simp_all
 refine ⟨l,mark,W1,{target:= .fn (.func g) us.toArray,args:= #[.func (.yield l) #[] #[]] },W1,g, #[.func (.yield l) #[] #[]] ++us.toArray,W1,he, ?_,fun f _=>FW.fn _ f,hrun,by simp [FW,Fence.wide], ?_⟩
 ·simp only [resolve,hfe]
  simp [go_sem]
 ·refine CallsIn.mono (R:=rangePost (FW w0.r) n P l (qq6 old bs w0 K) {a with defers:=mark++a.defers}) (FW.calls ?_) (fun e w' h=>h)
  refine (callsIn_wide (n:=0)).1 (callsIn_of_wp_marks (F:=FW none) hf hb (FW.fn none g) ?_ rfl)
  have hrel:=hpush (by
   refine qao.cons (u:= .func (.yield l) #[] #[]) (us:=us++List.replicate (fn.ntmps-(1+us.length)) undef) ?_ ?_|>fun h=>by simpa [Nat.add_comm] using h
   ·exact .own (qaO (by simp [qap,qan,B.ver])) fun _=>q7.symm
   ·refine qao.append ⟨hcap.1,fun i c u hc hu=>q8 (hcap.2 i c u hc hu)⟩ ⟨by simp [hcap.1];omega,fun i c u hc hu=> ?_⟩
    rw [List.getElem?_replicate] at hc
    split at hc
    ·simp at hc;subst hc;exact .top
    ·simp at hc)
  have hgo:=h 0 old' bs w1 _ W1 ι1 hrel
  rw [q2] at hgo
  refine wpIn_mono hgo ?_
  rintro e a' W' ⟨x,st',ι',rfl,hfin,hr'⟩
  have hx:x= .ret\/x= .normal:=by cases x<;>simp [qy9] at hfin ⊢
  obtain ⟨s,pend,ps',asg',body',cs,hgk,hs,hk⟩: ∃s pend ps' asg' body' cs,tat st'.t st.t.length= .loop s pend ps' asg' body' cs/\s≠ .busy/\
    ((pend=none/\K .normal ⟨cs,qaD st'.t st.t.length .dead⟩)\/(∃i,pend=some (.exit i)/\K (.exit i) ⟨cs,qaD st'.t st.t.length .dead⟩)\/(pend=some .ret/\K .ret ⟨cs,qaD st'.t st.t.length .dead⟩)):=by
   have hfin:(match qcv st'.t st.t.length with
    | .loop s pend _ _ _ cs=>match s,pend with
     | .ready,none=>frc ⟨cs,qaW st'.t st.t.length .dead⟩ (K .normal)
     | .done,some (.exit i)=>frc ⟨cs,qaW st'.t st.t.length .dead⟩ (K (.exit i))
     | .done,some .ret=>frc ⟨cs,qaW st'.t st.t.length .dead⟩ (K .ret)
     |_,_=>False
    |_=>False):=by cases x<;>first|exact hfin.elim|exact hfin
   rw [qa4,qb0] at hfin
   split at hfin
   ·rename_i s pend ps' asg' body' cs hq
    simp only [qaA] at hfin
    split at hfin
    ·exact ⟨_,_,_,_,_,_,hq,by simp,.inl ⟨rfl,hfin⟩⟩
    ·exact ⟨_,_,_,_,_,_,hq,by simp,.inr (.inl ⟨_,rfl,hfin⟩)⟩
    ·exact ⟨_,_,_,_,_,_,hq,by simp,.inr (.inr ⟨rfl,hfin⟩)⟩
    ·exact hfin.elim
   ·exact hfin.elim
  have hout:=hr'.out (n:=0) (P:=P) (fn:=fn) (R:=rangePost (FW w0.r) n P l (qq6 old bs w0 K) {a with defers:=mark++a.defers}) fun W2 hr2=> ?_
  ·rcases hx with rfl|rfl
   ·exact hout
   ·exact hout
  ·obtain ⟨rec,hrec,hs1,hs2,hrf⟩:=hpop hr2 hgk hs
   refine ⟨.tuple #[],by simp [results,hres], ?_⟩
   ·subst hs2
    refine ⟨rec.pending,_,run_endLoop (P:=P) hrec (by rw [hs1];exact hs), ?_⟩
    rcases hk with ⟨e,hk⟩|⟨i,e,hk⟩|⟨e,hk⟩
    ·simp only [e] at hrf ⊢
     exact ⟨.normal,_,ι',rfl,hk,hrf⟩
    ·simp only [e] at hrf ⊢
     exact wpIn_exit ⟨.exit i,_,ι',rfl,hk,hrf⟩
    ·simp only [e] at hrf ⊢
     exact wpIn_ret ⟨.ret,_,ι',rfl,hk,hrf⟩
theorem qmS{ι:Nat->Value}{vr:Nat->Option (Option Nat)}{ok:Nat->Prop}: ∀(ps:List Tmp) {xs:List S} {us:List Value} {env:List S} {tm:Array Value},qao W ι vr ok xs us->qao W ι vr ok env tm.toList->
  qao W ι vr ok (qrb ps xs env) ((ps.zip us).foldl (fun (t:Array Value) (p,v)=>t.setIfInBounds p v) tm).toList
 | [],xs,us,env,tm,_,he=>by simpa [qrb] using he
 |p::ps, [],us,env,tm,hx,he=>by rw [hx.nil_inv];simpa [qrb] using he
 |p::ps,x::xs,us,env,tm,hx,he=>by
  obtain ⟨u,us',rfl,h1,h2⟩:=hx.cons_inv
  simp only [qrb,List.zip_cons_cons,List.foldl_cons]
  refine qmS ps h2 ?_
  rw [qoy]
  simpa using he.set h1 p
theorem qrt(ps:Array Tmp)(l:List Value)(tm:Array Value):(ps.zip l.toArray).foldl (fun (t:Array Value) (p,v)=>t.setIfInBounds p v) tm=(ps.toList.zip l).foldl (fun (t:Array Value) (p,v)=>t.setIfInBounds p v) tm:=by
 rw [<-Array.foldl_toList];simp
theorem qfc{st:St}{K:St->Prop}{f:Operand}{args:List Operand}{dst:Option Tmp}{k:Nat}{pend:Option Code}{ps:Array Tmp}{asg body:Code}{cs:List S}
  (hcal:evx st.env f= .own k 0) (hk:qcv st.t k= .loop .ready pend ps asg body cs) (hlen:args.length=ps.size)
  (h:Ok P asg ⟨qrb ps.toList (qbl (evx st.env) args) cs,qaW st.t (qb8 st.t) (.ghost st.env)⟩ (qq8 k fun st2=>Ok P body st2 (qyR k (qb8 st.t) dst K))):qbH P f args dst st K:=by
 unfold qbH
 rintro o ⟨ts,ho⟩ rfl
 rw [qbc] at hcal h
 rw [qa4] at hk
 intro n old bs w0 a W ι Kw Q hr hK
 rw [qaL,qb0,qf3] at h
 have hg:=hr.gh k
 rw [hk] at hg
 obtain ⟨g1,g2,g3,g4,g5⟩:=hg
 have hno: ¬old (w0.gs k).l:=g3.resolve_left (by simp)
 have hf:a.eval f= .func (.yield (w0.gs k).l) #[] #[] :=by
  have:=hr.ev f
  rw [hcal] at this
  rw [qcm this (by simp [qap,hk,B.ver]),g1]
 have hargs:qao W ι (qap (tat st.t)) (okT bs (tat st.t) ι) (args.map (ev st.env)) (args.map a.eval):=by
  refine ⟨by simp,fun i c u hc hu=> ?_⟩
  rw [List.getElem?_map] at hc hu
  cases hq:args[i]? with
  |none=>simp [hq] at hc
  |some q=>simp [hq] at hc hu;subst hc;subst hu;exact hr.ev q
 refine ⟨fun f _=>FW.fn _ f, ?_⟩
 rw [Oper.semAt_eq _ _ _ (by rw [ho];simp)]
 have hrun:(execOp a.eval o).run P W= .ok (.round (w0.gs k).l (w0.gs k).fn ((ps.zip (args.map a.eval).toArray).foldl (fun t (p,v)=>t.setIfInBounds p v) (w0.gs k).tmps.toArray) asg body) W:=by
  have:=run_yield (P:=P) (args:=(args.map a.eval).toArray) g4 (by simpa using hlen)
  simp only at this
  rw [<-this]
  simp [execOp,ho,resolve,hf,Deferred.ofValue,invoke]
 rw [hrun,Oper.uponIn_round]
 refine ⟨by simp [FW,Fence.wide], ?_⟩
 obtain ⟨old',w1,hw1,hr1,ho1,hgs,hpush,hpop⟩:=hr.push (some (w0.gs k).l) (fun l hl=>by cases hl;exact ⟨g2.1,_,g4⟩) (env:=qrb ps.toList (args.map (ev st.env)) cs) (tm:=(ps.zip (args.map a.eval).toArray).foldl (fun t (p,v)=>t.setIfInBounds p v) (w0.gs k).tmps.toArray)
 obtain ⟨e1,e2,e3,e4⟩:=ghost_step hr.tok hr.oldIn st.t.length (qca _) st.env
 have hkl:k≠st.t.length:=fun e=>by subst e;rw [qca] at hk;cases hk
 have hrel:=hpush (by
  have:=qmS (tm:=(w0.gs k).tmps.toArray) ps.toList (e2 hargs) (by simpa using e2 g5)
  rw [qrt]
  exact this)
 have hgk:=hgs k hkl
 have hno': ¬old' (w1.gs k).l:=by
  have:=hrel.gh k
  have e:tat (qaD st.t st.t.length (.ghost st.env)) k= .loop .ready pend ps asg body cs:=by rw [qaE,qa2 _ _ hkl];exact hk
  rw [show (⟨qrb ps.toList (args.map (ev st.env)) cs,qaD st.t st.t.length (.ghost st.env)⟩:St).t=qaD st.t st.t.length (.ghost st.env) from rfl,e] at this
  exact this.2.2.1.resolve_left (by simp)
 refine roundIn_of_wpIn (FW.fn _ _) ?_
 have h1:=h (n-1) old' bs w1 _ W ι hrel
 rw [hr1] at h1
 refine wpIn_mono h1 ?_
 rintro e a1 W1 ⟨x,st1,ι1,rfl,hx,hrel1⟩
 cases x with
 |exit i=>simp [qq8] at hx
 |ret=>simp [qq8] at hx
 |normal=>
  unfold qq8 at hx
  rw [qa4,qb0] at hx
  simp only at hx
  split at hx
  ·rename_i s pend1 ps1 asg1 body1 cs1 hk1
   split at hx
   ·rw [qaA] at hx
    have hg1:=hrel1.gh k
    rw [hk1] at hg1
    obtain ⟨_,_,_,f4,_⟩:=hg1
    rw [hgk] at f4
    refine ⟨_,run_beginRound f4 rfl, ?_⟩
    have ht:=hrel1.turnLoop (s':= .busy) (p':=pend1) hk1 hno'
    rw [hgk] at ht
    have h2:=hx (n-1) old' bs w1 _ _ ι1 ht
    rw [hr1] at h2
    refine wpIn_mono h2 ?_
    rintro e a2 W2 ⟨x,st2,ι2,rfl,hy,hrel2⟩
    unfold qyR at hy
    simp only [qa4,qb0,qbq] at hy
    split at hy
    ·rename_i env hge
     split at hy
     ·rename_i s2 p2 ps2 asg2 body2 cs2 hk2
      split at hy
      ·have hg2:=hrel2.gh k
       rw [hk2] at hg2
       obtain ⟨_,_,_,f5,_⟩:=hg2
       rw [hgk] at f5
       have fin: ∀(s':LoopState) (p':Option Code),∃ι',Rel old bs w0 ι' ⟨env,qaD (qaD st2.t k (.loop s' p' ps2 asg2 body2 cs2)) st.t.length .dead⟩ a (W2.putObj (w0.gs k).l (.loop {state:=s',pending:=p',fn:=(w0.gs k).fn,tmps:=(w0.gs k).tmps.toArray,params:=ps2,assign:=asg2,body:=body2,defers:=(w0.gs k).D})):=fun s' p'=>by
        have ht2:=hrel2.turnLoop (s':=s') (p':=p') hk2 hno'
        rw [hgk] at ht2
        have hge2:tat (qaD st2.t k (.loop s' p' ps2 asg2 body2 cs2)) st.t.length= .ghost env:=by rw [qaE,qa2 _ _ (fun e=>hkl e.symm)];exact hge
        exact ⟨ι2,(hpop ht2 hge2).1⟩
       have put: ∀{b:Bool} {t:List B} {W3:World} {ι':Nat->Value},Rel old bs w0 ι' ⟨env,t⟩ a W3->Rel old bs w0 ι' ⟨qe7 env o.dst (.d (.v (.bool b))),t⟩ (a.put o.dst (.bool b)) W3:=fun h=>h.put (t:=_) (qav.refl h.tok) (.d (.v rfl))
       cases x with
       |normal=>
        simp only [qaA] at hy
        obtain ⟨ι3,hf3⟩:=fin .ready none
        exact ⟨_,_,run_endRound none f5,hK _ _ _ ι3 hy (put hf3)⟩
       |exit i=>
        simp only [qaA] at hy
        obtain ⟨ι3,hf3⟩:=fin .done (some (.exit i))
        exact ⟨_,_,run_endRound (some (.exit i)) f5,hK _ _ _ ι3 hy (put hf3)⟩
       |ret=>
        simp only [qaA] at hy
        obtain ⟨ι3,hf3⟩:=fin .done (some .ret)
        exact ⟨_,_,run_endRound (some .ret) f5,hK _ _ _ ι3 hy (put hf3)⟩
      ·exact hy.elim
     ·exact hy.elim
    ·exact hy.elim
   ·exact hx.elim
  ·exact hx.elim
end
end Go.Nv
end
section
namespace Go.Nv
open Go.RowKit
theorem qop(k:Nat)(env:List S)(t:List B)(hg:(tat t k).gh=false):qc4 ⟨env,t⟩ ⟨env,qaD t k .dead⟩:=by
 intro old bs w0 a W ι hr
 have hds:=qhu hr.tok hr.oldIn k
 have hat:tat (qaD t k .dead)=at_ (tat t) k .dead:=qaE ..
 refine ⟨ι,hr.defers,hr.oldIn,hr.fr, ?_, ?_, ?_, ?_,hr.rnd⟩
 ·show TOk W old bs ι (tat (qaD t k .dead));rw [hat];exact hds.tok
 ·show qao W ι (qap (tat (qaD t k .dead))) (okT bs (tat (qaD t k .dead)) ι) env a.tmps.toList
  rw [hat];exact hds.sdenL hr.env
 ·show∀j,qdN W old ι (qap (tat (qaD t k .dead))) (okT bs (tat (qaD t k .dead)) ι) (w0.gs j) j (tat (qaD t k .dead) j)
  rw [hat];exact hr.ghStep hds
 ·show∀i j,(tat (qaD t k .dead) i).isLoop=true->(tat (qaD t k .dead) j).isLoop=true->(w0.gs i).l=(w0.gs j).l->i=j
  rw [hat];exact hr.lapStep hds
def ghB:B->Bool
 | .ghost .. =>true
 | .loop .. =>true
 |_=>false
theorem qaj(k:Nat){env env':List S}{t t':List B}(hg:ghB (qcv t k)=false)(h:qc4 ⟨env,qaW t k .dead⟩ ⟨env',t'⟩):qc4 ⟨env,t⟩ ⟨env',t'⟩:=by
 rw [qb0] at h
 rw [qa4] at hg
 refine (qop k env t ?_).trans h
 cases hq:tat t k<;>rw [hq] at hg<;>simp_all [ghB,B.gh]
end Go.Nv
end
