import Derived.Test.YtlmmifgminkdkaaGreatNvN4
set_option linter.all false
set_option maxRecDepth 100000
section
namespace Go.Nv
open Go.RowKit
def qir:D->Bool
 | .v _=>true
 | .a cs=>go cs
 | .l [] =>true
 |_=>false
where go:List D->Bool
 | [] =>true
 |c::cs=>qir c&&go cs
def qgt(ds:List D):Bool:=ds.all qir
theorem qr6{cs:List D}(h:qir.go cs=true): ∀c∈cs,qir c=true:=by
 induction cs with
 |nil=>simp
 |cons c cs ih=>
  simp only [qir.go,Bool.and_eq_true] at h
  intro x hx
  rcases List.mem_cons.1 hx with rfl|hx
  ·exact h.1
  ·exact ih h.2 x hx
theorem Den.free{W W':World}{ok ok':Nat->Prop}{d:D}{v:Value}(h:Den W ok d v)(hn:qir d=true):Den W' ok' d v:=by
 induction h with
 |v hx=>exact .v hx
 | @a cs us hl _ h1 ih=>
  have hn':=qr6 (cs:=cs) (by simpa [qir] using hn)
  exact .a hl (fun i c u hc hu=>ih i c u hc hu (hn' c (List.mem_of_getElem? hc))) h1
 |l0 hc h0=>exact .l0 hc h0
 | @l xs b off cap us hne hl ho hc hd h0 h1 h2 ih=>
  cases xs with
  |nil=>simp [flat] at hl;exact absurd hl hne
  |cons x xs=>simp [qir] at hn
 |p hne hl ho hc hd h0 ih=>simp [qir] at hn
 |f hl _ ih=>simp [qir] at hn
theorem qaM.free{W W':World}{ok ok':Nat->Prop}{ds:List D}{us:List Value}(h:qaM W ok ds us)(hn:qgt ds=true):qaM W' ok' ds us:=
 ⟨h.1,fun i c u hc hu=>(h.2 i c u hc hu).free (List.all_eq_true.1 hn c (List.mem_of_getElem? hc))⟩
theorem qec.free{W W':World}{ok ok':Nat->Prop}{ds:List D}{v:Value}(h:qec W ok ds v)(hn:qgt ds=true):qec W' ok' ds v:=by
 unfold qec at*
 split at h
 ·exact h.free (by simpa [qgt] using hn)
 ·obtain ⟨us,h1,h2⟩:=h
  exact ⟨us,h1,h2.free hn⟩
section
variable {P:Program} {st:St} {K:St->Prop} {f:Operand} {args:List Operand} {dst:Option Tmp} {g:FuncId} {cap ds res:List D} {o:Oper}
theorem qeW{mu:Tmp->Bool}(h:qcd P mu o st fun _ st'=>K st'):OkOp P o st K:=fun n old bs w0 a W ι Kw Q hr hK=>
 qeq hr h fun l st' a' W' ι' hk _ hrel=>hK st' a' W' ι' hk hrel
theorem qaa(hf:evx st.env f= .d (.f g cap))(hd:qdY (args.map (evx st.env))=some ds)(h:Fun P g (ds++cap) res)(hk:K ⟨qd2 st.env dst (qj4 res),st.t⟩):qbI P f args dst st K:=by
 unfold qbI
 rintro o ⟨ts,ho⟩ rfl
 rw [qbe] at hf hd
 rw [qbq] at hk
 refine qeW (mu:=fun _=>false) ?_
 unfold qcd
 simp only [ho,hf,hd]
 exact .inl ⟨res,h,hk⟩
theorem qf7(hf:evx st.env f= .d (.f g cap))(hd:qdY (args.map (evx st.env))=some ds){e:TypeId}{size bytes:Nat}(h:qps P g (ds++cap) e size res)(hk:K ⟨qd2 st.env dst (.own (qcm st.t) 0),qaX st.t (qcm st.t) (.row 0 e size bytes res)⟩):qbI P f args dst st K:=by
 unfold qbI
 rintro o ⟨ts,ho⟩ rfl
 rw [qbe] at hf hd
 rw [qbq,qbT,qaT] at hk
 refine qeW (mu:=fun _=>false) ?_
 unfold qcd
 simp only [ho,hf,hd]
 exact .inr ⟨e,size,bytes,res,h,hk⟩
theorem qpq{rest:List S}{xs ys:List D}{k ver:Nat}{e:TypeId}{size bytes:Nat}(hf:evx st.env f= .d (.f g []))(hs:args.map (evx st.env)= .own k ver::rest)(hd:qdY rest=some ds)(ht:qcY st.t k= .row ver e size bytes xs)(h:qna P g e size ds xs ys)
  (hk:K ⟨qd2 st.env dst (.own k (ver+1)),qqr st.t (some (k,.row (ver+1) e size bytes ys))⟩):qbI P f args dst st K:=by
 unfold qbI
 rintro o ⟨ts,ho⟩ rfl
 rw [qbe] at hf hs
 rw [qbd] at ht
 rw [qbq,qe4] at hk
 refine qeW (mu:=fun _=>false) ?_
 have hn:qdY (args.map (ev st.env))=none:=by rw [hs];rfl
 unfold qcd
 simp only [ho,hf,hn]
 cases hal:args with
 |nil=>rw [hal] at hs;simp at hs
 |cons x rst=>
  rw [hal,List.map_cons] at hs
  obtain ⟨e1,e2⟩:=List.cons.inj hs
  exact .inl ⟨x,rst,ds,k,ver,e,size,bytes,xs,ys,trivial,rfl,e1,by rw [e2];exact hd,ht,h,hk⟩
def qBk(t:List B)(ss:List S):Option (List D):=ss.mapM (qe5 t 4)
def qxl(f:S->Option D):List S->Option (List D)
 | [] =>some []
 |c::cs=>match f c with|some d=>(match qxl f cs with|some ds=>some (d::ds)|none=>none)|none=>none
def qB6(t:List B)(k v:Nat):Option D:=match qcY t k with
  | .row v' _ size _ xs=>match Nat.beq v v' with|true=>(match Nat.blt 0 size with|true=>some (.l xs)|false=>none)|false=>none
  |_=>none
def qkn(t:List B):Nat->S->Option D
 |0,s=>match s with
  | .d x=>some x
  | .own k v=>qB6 t k v
  |_=>none
 |n+1,s=>match s with
  | .d x=>some x
  | .own k v=>qB6 t k v
  | .agg cs=>match qxl (qkn t n) cs with|some ds=>some (.a ds)|none=>none
  | .clo g cs=>match qxl (qkn t n) cs with|some ds=>some (.f g ds)|none=>none
  | .ptr k ver off=>match qcY t k with
   | .box _ (c::cs)=>match Nat.beq ver 0 with|true=>(match qxl (qkn t n) (c::cs) with|some ds=>some (.p off ds)|none=>none)|false=>none
   |_=>none
  |_=>none
def qrE(t:List B):List S->Option (List D)
 | [] =>some []
 |s::ss=>match qkn t 4 s with|some d=>(match qrE t ss with|some ds=>some (d::ds)|none=>none)|none=>none
theorem qjy(t:List B): ∀(n:Nat) (s:S) (d:D),qkn t n s=some d->qe5 t n s=some d:=by
 have hown: ∀n k v d,qB6 t k v=some d->qe5 t n (.own k v)=some d:=by
  intro n k v d h
  have e:qe5 t n (.own k v)=match tat t k with
   | .row v' _ size _ xs=>if v=v'/\0<size then some (.l xs) else none
   |_=>none:=by cases n<;>rfl
  rw [e]
  unfold qB6 at h
  rw [qbd] at h
  split at h
  ·rename_i v' e size bytes xs hk
   split at h
   ·rename_i h1
    split at h
    ·rename_i h2
     rw [if_pos ⟨Nat.eq_of_beq_eq_true h1,qdC h2⟩];exact h
    ·simp at h
   ·simp at h
  ·simp at h
 intro n
 induction n with
 |zero=>
  intro s d h
  cases s with
  |d x=>simpa [qkn,qe5] using h
  |own k v=>exact hown _ _ _ _ h
  |_=>simp [qkn] at h
 |succ n ih=>
  have hgo: ∀cs ds,qxl (qkn t n) cs=some ds->cs.mapM (qe5 t n)=some ds:=by
   intro cs
   induction cs with
   |nil=>intro ds h;simpa [qxl] using h
   |cons c cs ihc=>
    intro ds h
    unfold qxl at h
    split at h
    ·rename_i d hd
     split at h
     ·rename_i ds' hds
      simp at h;subst h
      rw [List.mapM_cons,ih _ _ hd,ihc _ hds];rfl
     ·simp at h
    ·simp at h
  intro s d h
  cases s with
  |d x=>simpa [qkn,qe5] using h
  |own k v=>exact hown _ _ _ _ h
  |agg cs=>
   simp only [qkn] at h;unfold qe5
   split at h
   ·rename_i ds hds;simp at h;subst h;rw [hgo _ _ hds];rfl
   ·simp at h
  |clo g cs=>
   simp only [qkn] at h;unfold qe5
   split at h
   ·rename_i ds hds;simp at h;subst h;rw [hgo _ _ hds];rfl
   ·simp at h
  |ptr k ver off=>
   simp only [qkn] at h;unfold qe5
   rw [qbd] at h
   split at h
   ·rename_i e c cs hk
    rw [hk]
    split at h
    ·rename_i h1
     split at h
     ·rename_i ds hds
      simp at h;subst h
      simp only
      rw [if_pos ⟨Nat.eq_of_beq_eq_true h1,by simp⟩,hgo _ _ hds];rfl
     ·simp at h
    ·simp at h
   ·simp at h
  |tup cs=>simp [qkn] at h
  |top=>simp [qkn] at h
theorem qmG{t:List B}: ∀{ss:List S} {ds:List D},qrE t ss=some ds->qBk t ss=some ds
 | [],ds,h=>by simpa [qrE,qBk] using h
 |s::ss,ds,h=>by
  unfold qrE at h
  unfold qBk
  split at h
  ·rename_i d hd
   split at h
   ·rename_i ds' hds
    simp at h;subst h
    have:=qmG hds
    unfold qBk at this
    rw [List.mapM_cons,qjy _ _ _ _ hd,this];rfl
   ·simp at h
  ·simp at h
theorem qoL{old bs:Nat->Prop}{w0:Ctx}{W:World}{ι:Nat->Value}{a:Act}{r:Option Nat}{n:Nat}(h:Rel old bs w0 ι st a W){ts:Array TypeId}(hop:o.op= .call {callee:= .value f,args:=args.toArray,argTypes:=ts})
  (hf:qe5 st.t 4 (ev st.env f)=some (.f g cap)) (hds:qBk st.t (args.map (ev st.env))=some ds) {R:Ending->World->Prop}
  (hc: ∀us,qaM W bs (ds++cap) us->Calls P g us.toArray W R) (hb:qe8 P g)
  {Kw:Act->World->Prop} {Q:Exit->Act->World->Prop} (hR: ∀e W',R e W'-> ∃v,e= .returned v/\Kw (a.put o.dst v) W'):o.wpIn (FW r) n P a W Kw Q:=by
 have hfv:=qgW h.tok 4 _ _ _ hf (h.ev f)
 obtain ⟨cs,hfe,hcs⟩: ∃us,a.eval f= .func (.func g) #[] (List.toArray us)/\qaM W bs cap us:=by
  cases hfv':a.eval f<;>rw [hfv'] at hfv<;>cases hfv
  exact ⟨_,rfl,by assumption,by assumption⟩
 have hargs:qao W ι (qap (tat st.t)) (okT bs (tat st.t) ι) (args.map (ev st.env)) (args.map a.eval):=by
  refine ⟨by simp,fun i c u hc hu=> ?_⟩
  rw [List.getElem?_map] at hc hu
  cases hq:args[i]? with
  |none=>simp [hq] at hc
  |some q=>simp [hq] at hc hu;subst hc;subst hu;exact h.ev q
 have hd:=qg2 (fun s d v=>qgW h.tok 4 s d v) hds hargs
 refine ⟨fun f _=>FW.fn r f, ?_⟩
 rw [Oper.semAt_eq _ _ _ (by rw [hop];simp)]
 have hrun:(execOp a.eval o).run P W= .ok (.enter g ((args.map a.eval++cs).toArray)) W:=by
  obtain ⟨fn,h1,h2,h3⟩:=hb
  obtain ⟨c,h2⟩:=Option.isSome_iff_exists.1 h2
  simp [execOp,hop,resolve,hfe,Deferred.ofValue,invoke,callFunc,h1,h2,h3]
  simp_all
 rw [hrun]
 refine ⟨by simp [FW,Fence.wide], ?_⟩
 refine CallsIn.mono (FW.calls (hc _ (hd.append hcs))) fun e W' he=> ?_
 obtain ⟨v,rfl,hk⟩:=hR e W' he
 exact hk
theorem qkf(hf:qkn st.t 4 (evx st.env f)=some (.f g cap))(hd:qrE st.t (args.map (evx st.env))=some ds)(h:Fun P g (ds++cap) res)(hn:qgt res=true)(hk:K ⟨qd2 st.env dst (qj4 res),st.t⟩):qbI P f args dst st K:=by
 unfold qbI
 rintro o ⟨ts,ho⟩ rfl
 rw [qbe] at hf hd
 rw [qbq] at hk
 intro n old bs w0 a W ι Kw Q hr hK
 refine qoL hr ho (qjy _ _ _ _ hf) (qmG hd) (hc:=fun us hd=>h.2 W _ us hd) h.1 ?_
 rintro e W' ⟨v,rfl,hret,hbel⟩
 refine ⟨v,rfl, ?_⟩
 have hst:=hr.tok.quiet hr.oldIn (qaL hbel)
 exact hK _ _ _ ι hk (hr.put (t:=st.t) hst ((hret.free (ok':=okT bs (tat st.t) ι) hn).toS fun b hb _=>hb))
end
section
variable {P:Program} {st:St} {K:Ex->St->Prop} {body:Code}
theorem qqz{α:Type}(I:α->St)(μ:α->Nat)(x0:α)(hw:qdl st (I x0))
  (h: ∀x,Ok P body (I x) fun e st'=>match e with
   | .normal=> ∃y,μ y<μ x/\qdl st' (I y)
   |e=>K e st'):Ok P (.loop body) st K:=by
 intro n old bs w0 a W ι hr
 obtain ⟨ι0,hr0⟩:=hw old bs w0 a W ι hr
 classical
 let L:Nat->Act->World->Prop:=fun m a W=> ∃x ι,μ x=m/\Rel old bs w0 ι (I x) a W
 let J:Act->World->Prop:=fun a W=> ∃m,L m a W
 let μ':Act->World->Nat:=fun a W=>if h: ∃m,L m a W then Classical.choose (least h) else 0
 have hμ: ∀a W m,L m a W->μ' a W<=m:=by
  intro a W m hL
  have hex: ∃m,L m a W:=⟨m,hL⟩
  show (if h: ∃m,L m a W then Classical.choose (least h) else 0)<=m
  rw [dif_pos hex]
  exact (Classical.choose_spec (least hex)).2 m hL
 have hμ1: ∀a W,J a W->L (μ' a W) a W:=by
  intro a W hI
  show L (if h: ∃m,L m a W then Classical.choose (least h) else 0) a W
  rw [dif_pos hI]
  exact (Classical.choose_spec (least hI)).1
 refine wpIn_loop J μ' ⟨_,x0,ι0,rfl,hr0⟩ ?_
 intro a1 W1 hI
 obtain ⟨x,ι1,hx,hr1⟩:=hμ1 a1 W1 hI
 refine wpIn_mono (h x _ old bs w0 a1 W1 ι1 hr1) ?_
 rintro e a' W' ⟨x',st',ι',rfl,hk,hrel⟩
 cases x' with
 |normal=>
  obtain ⟨y,hy,hwk⟩:=hk
  obtain ⟨ι2,hr2⟩:=hwk old bs w0 a' W' ι' hrel
  have hL:L (μ y) a' W':=⟨y,ι2,rfl,hr2⟩
  exact ⟨⟨_,hL⟩,by have:=hμ a' W' _ hL;omega⟩
 |exit id=>exact ⟨.exit id,st',ι',rfl,hk,hrel⟩
 |ret=>exact ⟨.ret,st',ι',rfl,hk,hrel⟩
end
theorem qal{z:Bool}{A B:Prop}(h1:z=true->A)(h2:z=false->B):cnd z A B:=by
 cases z
 ·exact h2 rfl
 ·exact h1 rfl
theorem qzM{z:Bool}{A B:Prop}(h:z=true)(h1:A):cnd z A B:=by subst h;exact h1
theorem qzr{z:Bool}{A B:Prop}(h:z=false)(h1:B):cnd z A B:=by subst h;exact h1
theorem qbx{z:Bool}{A B:Prop}(h1:z=true->A)(h2:z=false->B):cnd (bz z) A B:=by
 rw [qaJ];exact qal h1 h2
theorem qem{z:Bool}{A B:Prop}(h:z=true)(h1:A):cnd (bz z) A B:=by rw [qaJ];exact qzM h h1
theorem qaZ{z:Bool}{A B:Prop}(h:z=false)(h1:B):cnd (bz z) A B:=by rw [qaJ];exact qzr h h1
theorem qaf{p:Prop}[Decidable p]{A B:Prop}(h1:p->A)(h2: ¬p->B):cnd (bz (decide p)) A B:=
 qbx (fun h=>h1 (of_decide_eq_true h)) (fun h=>h2 (of_decide_eq_false h))
theorem qaI{p:Prop}[Decidable p]{A B:Prop}(h:p)(h1:A):cnd (bz (decide p)) A B:=qem (decide_eq_true h) h1
theorem qaU{p:Prop}[Decidable p]{A B:Prop}(h: ¬p)(h1:B):cnd (bz (decide p)) A B:=qaZ (decide_eq_false h) h1
theorem qa4{α:Type}[DecidableEq α]{x y:α}{A B:Prop}(h1:x=y->A)(h2:x≠y->B):cnd (bz (x==y)) A B:=
 qbx (fun h=>h1 (eq_of_beq h)) (fun h=>h2 (fun e=>by subst e;simp at h))
theorem qav{α:Type}[DecidableEq α]{x y:α}{A B:Prop}(h1:x≠y->A)(h2:x=y->B):cnd (bz (x !=y)) A B:=
 qbx (fun h=>h1 (by simpa using h)) (fun h=>h2 (by simpa using h))
theorem qbn{z:Bool}{A B:Prop}(h1:z=false->A)(h2:z=true->B):cnd (qo6 z) A B:=by
 rw [qdO];exact qal (fun h=>h1 (by simpa using h)) (fun h=>h2 (by simpa using h))
theorem qaB{b:Bool}{K:Prop}(h:b=true)(k:K):Sd b K:=by unfold Sd;exact ⟨h,k⟩
theorem qak{p:Prop}[Decidable p]{K:Prop}(h:p)(k:K):Sd (decide p) K:=by unfold Sd;exact ⟨decide_eq_true h,k⟩
theorem qa2{p:Prop}[Decidable p]{size:Nat}{xs:List D}{K:Prop}(h:p)(hu:Uni size xs)(k:K):Sd (decide p&&qhu size xs) K:=by
 unfold Sd;exact ⟨by simp [h,qbN.2 hu],k⟩
theorem qca{p:Prop}[Decidable p]{size:Nat}{xs ys:List D}{K:Prop}(hu:Uni size xs)(hv:Uni size ys)(h:p)(k:K):Sd (qhu size xs&&(qhu size ys&&decide p)) K:=by
 unfold Sd;exact ⟨by simp [h,qbN.2 hu,qbN.2 hv],k⟩
theorem qcZ{p q:Prop}[Decidable p][Decidable q]{K:Prop}(h:p)(h2:q)(k:K):Sd (decide p&&decide q) K:=by
 unfold Sd;exact ⟨by simp [h,h2],k⟩
theorem qae{cells:Nat}{xs:List D}{n:Int}{K:D->Prop}(x:D)(h:xs[n.toNat]? =some x)(h0:0<=n)(hu:Uni cells xs)(k:K (.p 0 x.cells)):qyc cells xs n K:=by
 unfold qyc;exact ⟨x,h,h0,hu,k⟩
theorem qa8{agg:Bool}{cells size:Nat}{xs:List D}{off i r:Nat}{K:D->Prop}(x d:D)(hx:xs[i]? =some x)(ho:off=i*size+r)(hr:r<size)(hu:Uni size xs)(hd:qoW agg cells x.cells r=some d)(k:K d):
  qyk agg cells size xs off K:=by unfold qyk;exact ⟨i,r,x,d,ho,hr,hx,hu,hd,k⟩
theorem qkN{cells size:Nat}{xs:List D}{off:Nat}{d:D}{K:List D->Prop}(xs':List D)(h:qdj size xs off d.cells=some xs')(hc:d.cells.length=cells)(hu:Uni size xs)(h0:0<size)(k:K xs'):qtW cells size xs off d K:=by
 unfold qtW;exact ⟨xs',h,hc,hu,h0,k⟩
theorem qaN{cells i:Nat}{xs:List D}{v:Value}{K:List D->Prop}(hi:i<xs.length)(hs: ∀x∈xs,∃u,x= .v u)(hc:cells=1)(k:K (xs.set i (.v v))):qtW cells 1 xs (i*1) (.v v) K:=by
 refine qkN _ ?_ (by rw [hc];rfl) (fun x hx=> ?_) (by omega) k
 ·have h1:i*1/1=i:=by simp
  have h2:xs[i]? =some xs[i] :=List.getElem?_eq_getElem hi
  obtain ⟨u,hu⟩:=hs _ (List.getElem_mem hi)
  simp [qdj,h2,hu,D.cells]
 ·obtain ⟨u,rfl⟩:=hs x hx;rfl
theorem qab{P:Program}{g:FuncId}{ds:List D}{t:List B}{K:qcN->S->Option (Nat×B)->Prop}{res:List D}(h:Fun P g ds res)(k:K ⟨[],none⟩ (qj4 res) none):qlx P g ds t K:=by
 unfold qlx;exact .inl ⟨res,h,k⟩
theorem qad{ops:Array Oper}{ls:List qcN}{K:Prop}(h:qgN ops ls=true)(k:K):qhc ops ls K:=by unfold qhc;exact ⟨h,k⟩
theorem qcq{P:Program}{c:Code}{st:St}{K:Ex->St->Prop}(h:Ok P c st K):OkC P c st K:=by unfold OkC;exact h
def qtQ(f:D->D->Prop):List D->List D->Prop
 | [], [] =>True
 |x::xs,y::ys=>f x y/\qtQ f xs ys
 |_,_=>False
def qx6(x y:Value):Prop:=
 match x,y with
 | .int k a,.int k' b=>match Nat.beq (ikc k) (ikc k') with|true=>a=b|false=>False
 | .string a,.string b=>a=b
 | .bool a,.bool b=>a=b
 |x,y=>x=y
def qrz:Nat->D->D->Prop
 |0,x,y=>x=y
 |n+1,x,y=>match x,y with
  | .v x,.v y=>qx6 x y
  | .l a,.l b=>a=b
  | .a a,.a b=>qtQ (qrz n) a b
  |x,y=>x=y
def qEr(x y:D):Prop:=qrz 4 x y
theorem qvC: ∀(n:Nat) (x y:D),qrz n x y->x=y:=by
 intro n
 induction n with
 |zero=>intro x y h;exact h
 |succ n ih=>
  have hl: ∀xs ys:List D,qtQ (qrz n) xs ys->xs=ys:=by
   intro xs
   induction xs with
   |nil=>
    intro ys h
    cases ys with
    |nil=>rfl
    |cons=>simp [qtQ] at h
   |cons x xs ihx=>
    intro ys h
    cases ys with
    |nil=>simp [qtQ] at h
    |cons y ys=>
     simp only [qtQ] at h
     rw [ih x y h.1,ihx ys h.2]
  intro x y h
  unfold qrz at h
  split at h
  ·unfold qx6 at h
   split at h
   ·split at h
    ·rename_i hk;rw [qdk hk,h]
    ·exact h.elim
   ·rw [h]
   ·rw [h]
   ·rw [h]
  ·rw [h]
  ·rw [hl _ _ h]
  ·exact h
theorem qq9{x y:D}(h:qEr x y):x=y:=qvC 4 x y h
def qBf(T:Tb)(st:St):ResultVar->Option D
 | .tmp k=>qkn st.t 4 (lk st.env k)
 | .cell k ty=>match qg9 T ty with
  |some i=>match lk st.env k with
   | .ptr b ver off=>match qcY st.t b with
    | .box _ cs=>match Nat.beq ver 0 with|true=>(match qiW i cs off with|some s=>qkn st.t 4 s|none=>none)|false=>none
    |_=>none
   | .d (.p off cs)=>qoj i cs off
   |_=>none
  |none=>none
theorem qwg{P:Program}{T:Tb}(hT:qcG P T)(st:St)(r:ResultVar)(d:D)(h:qBf T st r=some d):qhF P st r=some d:=by
 cases r with
 |tmp k=>simp only [qBf] at h;simp only [qhF];rw [qkw] at h;exact qjy _ _ _ _ h
 |cell k ty=>
  simp only [qBf] at h
  simp only [qhF]
  split at h
  ·rename_i i hi
   have hi:=hT ty i hi
   rw [if_pos hi.und]
   rw [qkw,qbd] at h
   split at h
   ·rename_i b ver off hk
    rw [hk]
    simp only
    split at h
    ·rename_i bt cs hb
     rw [hb]
     split at h
     ·rename_i h1
      split at h
      ·rename_i s hs
       rw [qfn hi] at hs
       simp only
       rw [if_pos (Nat.eq_of_beq_eq_true h1),hs]
       exact qjy _ _ _ _ h
      ·simp at h
     ·simp at h
    ·simp at h
   ·rename_i off cs hk
    rw [hk];rw [qfB hi] at h;exact h
   ·simp at h
  ·simp at h
def qzX(T:Tb)(st:St):List ResultVar->List D->Prop
 | [], [] =>True
 |r::rs,x::xs=>(match qBf T st r with|some d=>qEr d x|none=>False)/\qzX T st rs xs
 |_,_=>False
theorem qlH{P:Program}{T:Tb}(hT:qcG P T){st:St}: ∀{rs:List ResultVar} {xs:List D},qzX T st rs xs->rs.mapM (qhF P st)=some xs
 | [], [],_=>by simp
 |r::rs,x::xs,h=>by
  obtain ⟨h1,h2⟩:=h
  split at h1
  ·rename_i d hd
   rw [List.mapM_cons,qwg hT _ _ _ hd,qlH hT h2,qq9 h1];rfl
  ·exact h1.elim
 | [],_::_,h=>h.elim
 |_::_, [],h=>h.elim
def qq2:Nat->List S
 |0=> []
 |n+1=> .top::qq2 n
theorem qh9: ∀n,qq2 n=List.replicate n .top
 |0=>rfl
 |n+1=>by rw [qq2,qh9 n];rfl
def qgJ:List D->List S
 | [] => []
 |d::ds=> .d d::qgJ ds
def qd1:List S->List S->List S
 | [],ys=>ys
 |x::xs,ys=>x::qd1 xs ys
def qeO(args:List D)(ntmps:Nat):St:=⟨qd1 (qgJ args) (qq2 (ntmps-qcm args)), []⟩
theorem qk9:qeO=qjm:=by
 funext a n
 have h1: ∀xs ys,qd1 xs ys=xs++ys:=by intro xs ys;induction xs<;>simp [qd1, *]
 have h2: ∀ds,qgJ ds=ds.map .d:=by intro ds;induction ds<;>simp [qgJ, *]
 simp [qeO,qjm,qh9,h1,h2,qaT]
def qzI(P:Program)(g:FuncId)(args:List D)(Q:List D->Prop):Prop:=qe8 P g/\
 ∀(w:World) (ok:Nat->Prop) (us:List Value),qaM w ok args us->
  Calls P g us.toArray w fun e w'=> ∃v res,e= .returned v/\Q res/\qec w' (fun b=>ok b\/w.heap.size<=b) res v/\Below w.heap.size w w'
theorem qzI.fn{P:Program}{g:FuncId}{args res:List D}(h:qzI P g args (· =res)):Fun P g args res:=
 ⟨h.1,fun w ok us hd=>(h.2 w ok us hd).mono fun e w' ⟨v,r,h1,h2,h3,h4⟩=>⟨v,h1,by rw [<-h2];exact h3,h4⟩⟩
def qB4(T:Tb)(rs:List ResultVar)(Q:List D->Prop)(e:Ex)(st:St):Prop:=
 match e with
 | .exit _=>False
 |_=> ∃res,qzX T st rs res/\Q res
def qDi(T:Tb)(rs:List ResultVar)(res:List D)(e:Ex)(st:St):Prop:=
 match e with
 | .exit _=>False
 |_=>qzX T st rs res
theorem qiv{P:Program}{T:Tb}{g:FuncId}{fn:Func}{c:Code}{args:List D}{Q:List D->Prop}(hm:P.follows .mixedOrders=true)(hT:qcG P T)(hf:P.funcs[g]? =some fn)(hb:fn.body=some c)(hn:(fn.name== "runtime.NumGoroutine")=false)
  (h:Ok P c (qeO args fn.ntmps) (qB4 T fn.results.toList Q)):qzI P g args Q:=by
 rw [qk9] at h
 refine ⟨⟨fn,hf,by rw [hb];rfl,hn⟩,fun w ok us hd=> ?_⟩
 refine (callsIn_wide (n:=0)).1 (callsIn_of_wp_marks (F:=FW none) hf hb (FW.fn none g) ?_ rfl)
 let old:Nat->Prop:=fun b=>b<w.heap.size
 let bs:Nat->Prop:=fun b=>ok b\/w.heap.size<=b
 have hrel:Rel old bs ⟨w,fun _=>⟨[],0,0,0⟩,none⟩ (fun _=>undef) (qjm args fn.ntmps) {tmps:=us.toArray++Array.replicate (fn.ntmps-us.toArray.size) undef,defers:= [] } w:=qkF hd
 refine wpIn_mono (h 0 old bs _ _ w _ hrel) ?_
 rintro e a' W' ⟨x,st,ι,rfl,hfin,hr⟩
 have hx:x= .ret\/x= .normal:=by cases x<;>simp [qB4] at hfin ⊢
 obtain ⟨res,hres,hQ⟩: ∃res,fn.results.toList.mapM (qhF P st)=some res/\Q res:=by
  cases x with
  |exit i=>exact hfin.elim
  |normal=>obtain ⟨res,h1,h2⟩:=hfin;exact ⟨res,qlH hT h1,h2⟩
  |ret=>obtain ⟨res,h1,h2⟩:=hfin;exact ⟨res,qlH hT h1,h2⟩
 have hout:=hr.out (n:=0) (P:=P) (fn:=fn) (R:=fun e w'=> ∃v res,e= .returned v/\Q res/\qec w' (fun b=>ok b\/w.heap.size<=b) res v/\Below w.heap.size w w') fun W2 hr=>by
  obtain ⟨v,hrun,hret⟩:=qmh hr hres
  exact ⟨v,hrun,v,res,rfl,hQ,hret,⟨hr.fr.os,hr.fr.tape,hr.fr.output,hr.fr.size,hr.fr.block⟩⟩
 rcases hx with rfl|rfl
 ·exact hout
 ·exact hout
theorem qac{P:Program}{T:Tb}{g:FuncId}{fn:Func}{c:Code}{args res:List D}(mu:Tmp->Bool)(hm:P.follows .mixedOrders=true)(hT:qcG P T)(hf:P.funcs[g]? =some fn)(hb:fn.body=some c)(hn:(fn.name== "runtime.NumGoroutine")=false)
  (h:go P T mu c (qeO args fn.ntmps) (qDi T fn.results.toList res)):Fun P g args res:=by
 have h:=qkd hm hT c _ _ h
 refine qzI.fn ?_
 have h2:Ok P c (qeO args fn.ntmps) (qB4 T fn.results.toList (· =res)):=h.mono fun e st hk=>by
  cases e with
  |exit i=>exact hk
  |normal=>exact ⟨res,hk,rfl⟩
  |ret=>exact ⟨res,hk,rfl⟩
 exact qiv hm hT hf hb hn h2
def qtP:S->S->Prop
 | .d x,.d y=>qEr x y
 | .own k v,.own k' v'=>match Nat.beq k k' with|true=>(match Nat.beq v v' with|true=>True|false=>v=v')|false=>False
 | .ptr k v o,.ptr k' v' o'=>match Nat.beq k k' with|true=>(match Nat.beq v v' with|true=>o=o'|false=>False)|false=>False
 |x,y=>x=y
theorem qpT{x y:S}(h:qtP x y):x=y:=by
 unfold qtP at h
 split at h
 ·rw [qq9 h]
 ·split at h
  ·rename_i h1
   rw [Nat.eq_of_beq_eq_true h1]
   split at h
   ·rename_i h2;rw [Nat.eq_of_beq_eq_true h2]
   ·rw [h]
  ·exact h.elim
 ·split at h
  ·rename_i h1
   rw [Nat.eq_of_beq_eq_true h1]
   split at h
   ·rename_i h2;rw [Nat.eq_of_beq_eq_true h2,h]
   ·exact h.elim
  ·exact h.elim
 ·exact h
def leX:List S->List S->Prop
 | [], [] =>True
 |s::ss,s'::ss'=>match s' with
  | .top=>leX ss ss'
  |s'=>qtP s s'/\leX ss ss'
 |_,_=>False
theorem qi3: ∀{ss ss':List S},leX ss ss'->LeL ss ss'
 | [], [],_=>trivial
 |s::ss,s'::ss',h=>by
  unfold leX at h
  unfold LeL
  split at h
  ·exact ⟨trivial,qi3 h⟩
  ·rename_i hne
   refine ⟨?_,qi3 h.2⟩
   have:=qpT h.1
   cases s' with
   |top=>exact absurd rfl hne
   |_=>exact this
 | [],_::_,h=>h.elim
 |_::_, [],h=>h.elim
def qr0:B->B->Prop
 | .row v e s b xs,.row v' e' s' b' xs'=>v=v'/\e=e'/\s=s'/\b=b'/\xs=xs'
 | .box t cs,.box t' cs'=>t=t'/\go cs cs'
 |x,y=>x=y
where go:List S->List S->Prop
 | [], [] =>True
 |x::xs,y::ys=>qtP x y/\go xs ys
 |_,_=>False
theorem qru{x y:B}(h:qr0 x y):x=y:=by
 have hl: ∀xs ys,qr0.go xs ys->xs=ys:=by
  intro xs
  induction xs with
  |nil=>intro ys h;cases ys with
   |nil=>rfl
   |cons=>simp [qr0.go] at h
  |cons x xs ih=>intro ys h;cases ys with
   |nil=>simp [qr0.go] at h
   |cons y ys=>obtain ⟨h1,h2⟩:=h;rw [qpT h1,ih _ h2]
 unfold qr0 at h
 split at h
 ·obtain ⟨rfl,rfl,rfl,rfl,rfl⟩:=h;rfl
 ·obtain ⟨rfl,h⟩:=h;rw [hl _ _ h]
 ·exact h
def leT:List B->List B->Prop
 | [], [] =>True
 |x::xs,y::ys=>qr0 x y/\leT xs ys
 |_,_=>False
theorem quT: ∀{xs ys:List B},leT xs ys->xs=ys
 | [], [],_=>rfl
 |x::xs,y::ys,h=>by rw [qru h.1,quT h.2]
 | [],_::_,h=>h.elim
 |_::_, [],h=>h.elim
theorem qa9{env env':List S}{t t':List B}(ht:leT t t')(h:leX env env'):qdl ⟨env,t⟩ ⟨env',t'⟩:=qv4 (quT ht) (qi3 h)
def fr(n:Nat):List (Nat×S)->List S
 | [] =>qq2 n
 |(i,s)::xs=>st1 (fr n xs) i s
end Go.Nv
end
section
namespace Go.Nv
open Go.RowKit
def lpX(Kn:St->Prop)(K:Ex->St->Prop)(e:Ex)(st:St):Prop:=match e with
 | .normal=>Kn st
 | .exit i=>K (.exit i) st
 | .ret=>K .ret st
section
variable {P:Program} {T:Tb} {st:St} {K:Ex->St->Prop} {body:Code}
theorem qah{α:Type}(mu:Tmp->Bool)(I:α->St)(inv:α->Prop)(μ:α->Nat)(x0:α)(hm:P.follows .mixedOrders=true)(hT:qcG P T)(h0:inv x0)(hw:qdl st (I x0))
  (h: ∀x,inv x->go P T mu body (I x) (lpX (fun st'=> ∃y,inv y/\μ y<μ x/\qdl st' (I y)) K)):OkC P (.loop body) st K:=by
 refine qcq (qqz (fun x:{x:α//inv x}=>I x.1) (fun x=>μ x.1) ⟨x0,h0⟩ hw ?_)
 rintro ⟨x,hx⟩
 refine (qkd hm hT body _ _ (h x hx)).mono ?_
 rintro e st' hk
 cases e with
 |normal=>obtain ⟨y,h1,h2,h3⟩:=hk;exact ⟨⟨y,h1⟩,h2,h3⟩
 |exit i=>exact hk
 |ret=>exact hk
end
end Go.Nv
end
section
namespace Go.Nv
open Go.RowKit
def qBR(k ver:Nat)(xs:List D):S->S
 | .own j v=>match Nat.beq j k with|true=>(match Nat.beq v ver with|true=> .d (.l xs)|false=> .top)|false=> .own j v
 | .ptr j v o=>match Nat.beq j k with|true=> .top|false=> .ptr j v o
 | .d x=> .d x
 |_=> .top
def qrI(k ver:Nat)(xs:List D):Nat->S->S
 |0,s=>qBR k ver xs s
 |n+1,s=>match s with
  | .agg cs=>qor (cs.map (qrI k ver xs n))
  | .clo g cs=> .clo g (cs.map (qrI k ver xs n))
  | .tup cs=> .tup (cs.map (qrI k ver xs n))
  |s=>qBR k ver xs s
def qye(k ver:Nat)(xs:List D):B->B
 | .box t cs=> .box t (cs.map (qrI k ver xs 2))
 | .ghost cs=> .ghost (cs.map (qrI k ver xs 3))
 | .loop s pend ps asg body cs=> .loop s pend ps asg body (cs.map (qrI k ver xs 3))
 |b=>b
def qin(k ver:Nat)(xs:List D):Nat->List B->List B
 |_, [] => []
 |i,b::t=>(match Nat.beq i k with|true=> .dead|false=>qye k ver xs b)::qin k ver xs (i+1) t
def qsV(k:Nat)(st:St):St:=
 match qcY st.t k with
 | .row ver _ size _ xs=>match Nat.blt 0 size with
  |true=>⟨st.env.map (qrI k ver xs 3),qin k ver xs 0 st.t⟩
  |false=>st
 |_=>st
theorem ql7(k ver:Nat)(xs:List D): ∀(t:List B) (i j:Nat),tat (qin k ver xs i t) j=if i+j=k/\j<t.length then .dead else qye k ver xs (tat t j)
 | [],i,j=>by simp [qin,tat,qye]
 |b::t,i,j=>by
  cases j with
  |zero=>
   simp only [qin,tat,List.getD_eq_getElem?_getD,List.getElem?_cons_zero,Option.getD_some,Nat.add_zero,List.length_cons]
   cases h:Nat.beq i k with
   |true=>have:=Nat.eq_of_beq_eq_true h;simp [this]
   |false=>
    have:i≠k:=fun e=>by subst e;rw [Nat.beq_refl] at h;simp at h
    simp [this]
  |succ j=>
   have:=ql7 k ver xs t (i+1) j
   have e:tat (qin k ver xs i (b::t)) (j+1)=tat (qin k ver xs (i+1) t) j:=by simp [qin,tat]
   have e2:tat (b::t) (j+1)=tat t j:=by simp [tat]
   rw [e,e2,this]
   simp only [List.length_cons]
   by_cases h:i+1+j=k/\j<t.length
   ·rw [if_pos h,if_pos ⟨by omega,by omega⟩]
   ·rw [if_neg h,if_neg (fun h'=>h ⟨by omega,by omega⟩)]
section
variable {W:World} {old bs:Nat->Prop} {ι:Nat->Value} {τ:Nat->B}
theorem qqk{W:World}{ι:Nat->Value}{vr:Nat->Option (Option Nat)}{ok:Nat->Prop}{ss:List S}{us:List Value}(h:qao W ι vr ok ss us)(h1: ∀(i:Nat) (u:Value),us[i]? =some u->u.oneCell'=true):qaG W ι vr ok (qor ss) (.agg us.toArray):=by
 unfold qor
 split
 ·rename_i ds hds
  have:=qbQ hds
  subst this
  exact .d (.a h.inv.1 h.inv.2 h1)
 ·exact .agg h.1 h.2 h1
theorem qpA(hT:TOk W old bs ι τ)(hN:qbO old W){k ver:Nat}{e:TypeId}{size bytes:Nat}{xs:List D}(hk:τ k= .row ver e size bytes xs)(h0:0<size):
  ∀(n:Nat) (s:S) (v:Value),qaG W ι (qap τ) (okT bs τ ι) s v->qaG W ι (qap (at_ τ k .dead)) (okT bs (at_ τ k .dead) ι) (qrI k ver xs n s) v:=by
 have hst:=qev hT hN k (by rw [hk];rfl)
 have hO: ∀(s:S) (v:Value),qaG W ι (qap τ) (okT bs τ ι) s v->qaG W ι (qap (at_ τ k .dead)) (okT bs (at_ τ k .dead) ι) (qBR k ver xs s) v:=by
  intro s v hs
  unfold qBR
  split
  ·rename_i j v'
   split
   ·rename_i hj
    have hj:=Nat.eq_of_beq_eq_true hj
    subst hj
    split
    ·rename_i hv
     have hv:=Nat.eq_of_beq_eq_true hv
     subst hv
     have:=qcw hs (qbl hk)
     subst this
     exact .d (qjv hT hk h0)
    ·exact .top
   ·exact hst.sden hs
  ·split
   ·exact .top
   ·exact hst.sden hs
  ·exact hst.sden hs
  ·exact .top
 intro n
 induction n with
 |zero=>exact hO
 |succ n ih=>
  have hL: ∀(ss:List S) (us:List Value),qao W ι (qap τ) (okT bs τ ι) ss us->qao W ι (qap (at_ τ k .dead)) (okT bs (at_ τ k .dead) ι) (ss.map (qrI k ver xs n)) us:=by
   intro ss us h
   refine ⟨by simp [h.1],fun i c u hc hu=> ?_⟩
   rw [List.getElem?_map] at hc
   cases hq:ss[i]? with
   |none=>simp [hq] at hc
   |some q=>simp [hq] at hc;subst hc;exact ih _ _ (h.2 i q u hq hu)
  intro s v hs
  unfold qrI
  split
  ·rename_i cs
   obtain ⟨us,rfl,h2,h3⟩:=qkV hs
   exact qqk (hL _ _ h2) h3
  ·rename_i g cs
   cases hs with
   |clo hl hh=>
    have:=hL _ _ ⟨hl,hh⟩
    exact .clo this.1 this.2
  ·rename_i cs
   obtain ⟨us,rfl,h2⟩:=qmU hs
   have:=hL _ _ h2
   exact .tup this.1 this.2
  ·exact hO _ _ hs
theorem qsz(k:Nat)(st:St):qdl st (qsV k st):=by
 intro old bs w0 a W ι hr
 unfold qsV
 rw [qbd]
 split
 ·rename_i ver e size bytes xs hk
  split
  ·rename_i h0
   have h0:=qdC h0
   have hkt:k<st.t.length:=by
    rcases Nat.lt_or_ge k st.t.length with h|h
    ·exact h
    ·rw [tat,List.getD_eq_getElem?_getD,List.getElem?_eq_none h] at hk;simp at hk
   have hat: ∀j,tat (qin k ver xs 0 st.t) j=if j=k then .dead else qye k ver xs (tat st.t j):=by
    intro j
    rw [ql7]
    simp only [Nat.zero_add]
    by_cases h:j=k
    ·subst h;simp [hkt]
    ·simp [h]
   have hver:qap (tat (qin k ver xs 0 st.t))=qap (at_ (tat st.t) k .dead):=by
    funext j
    unfold qap
    rw [hat j];unfold at_
    split
    ·rfl
    ·cases tat st.t j<;>rfl
   have hlive: ∀j,(tat (qin k ver xs 0 st.t) j).live=(at_ (tat st.t) k .dead j).live:=by
    intro j
    rw [hat j];unfold at_
    split
    ·rfl
    ·cases tat st.t j<;>rfl
   have hokT:okT bs (tat (qin k ver xs 0 st.t)) ι=okT bs (at_ (tat st.t) k .dead) ι:=by
    funext b
    unfold okT
    simp only [hlive]
   have hloop: ∀j,(tat (qin k ver xs 0 st.t) j).isLoop=true->(tat st.t j).isLoop=true:=by
    intro j hj
    rw [hat j] at hj
    split at hj
    ·simp [B.isLoop] at hj
    ·cases hq:tat st.t j<;>rw [hq] at hj<;>simp_all [qye,B.isLoop]
   have hL: ∀{cs:List S} {us:List Value},qao W ι (qap (tat st.t)) (okT bs (tat st.t) ι) cs us->qao W ι (qap (tat (qin k ver xs 0 st.t))) (okT bs (tat (qin k ver xs 0 st.t)) ι) (cs.map (qrI k ver xs 3)) us:=by
    intro cs us ho
    rw [hver,hokT]
    refine ⟨by simp [ho.1],fun i c u hc hu=> ?_⟩
    rw [List.getElem?_map] at hc
    cases hq:cs[i]? with
    |none=>simp [hq] at hc
    |some q=>simp [hq] at hc;subst hc;exact qpA hr.tok hr.oldIn hk h0 3 _ _ (ho.2 i q u hq hu)
   refine ⟨ι,hr.defers,hr.oldIn,hr.fr, ?_,hL hr.env,fun j=> ?gh,fun i j hi hj=>hr.lap i j (hloop i hi) (hloop j hj),hr.rnd⟩
   case gh=>
    have hg:=hr.gh j
    show qd0 W old ι (qap (tat (qin k ver xs 0 st.t))) (okT bs (tat (qin k ver xs 0 st.t)) ι) (w0.gs j) j (tat (qin k ver xs 0 st.t) j)
    rw [hat j]
    split
    ·trivial
    ·cases hq:tat st.t j with
     |ghost cs=>rw [hq] at hg;exact hL hg
     |loop s pend ps asg body cs=>
      rw [hq] at hg
      obtain ⟨h1,h2,h3,h4,h5⟩:=hg
      refine ⟨h1, ?_,h3,h4,hL h5⟩
      rw [hokT]
      have hst:=qev hr.tok hr.oldIn k (by rw [hk];rfl)
      exact hst.ok _ h2 (Array.getElem?_eq_some_iff.1 h4).1
     |_=>trivial
   ·have hst:=qev hr.tok hr.oldIn k (by rw [hk];rfl)
    have hkt:k<st.t.length:=by
     rcases Nat.lt_or_ge k st.t.length with h|h
     ·exact h
     ·rw [tat,List.getD_eq_getElem?_getD,List.getElem?_eq_none h] at hk;simp at hk
    have hat: ∀j,tat (qin k ver xs 0 st.t) j=if j=k then .dead else qye k ver xs (tat st.t j):=by
     intro j
     rw [ql7]
     simp only [Nat.zero_add]
     by_cases h:j=k
     ·subst h;simp [hkt]
     ·simp [h]
    have hlive: ∀j,(tat (qin k ver xs 0 st.t) j).live=(at_ (tat st.t) k .dead j).live:=by
     intro j
     rw [hat j];unfold at_
     split
     ·rfl
     ·cases tat st.t j<;>rfl
    have hver:qap (tat (qin k ver xs 0 st.t))=qap (at_ (tat st.t) k .dead):=by
     funext j
     unfold qap
     rw [hat j];unfold at_
     split
     ·rfl
     ·cases tat st.t j<;>rfl
    have hokT:okT bs (tat (qin k ver xs 0 st.t)) ι=okT bs (at_ (tat st.t) k .dead) ι:=by
     funext b
     unfold okT
     simp only [hlive]
    refine ⟨hr.tok.bsn,fun j=> ?_,fun i j b hi hj=>by rw [hlive] at hi hj;exact hst.tok.apart i j b hi hj⟩
    have he:=hst.tok.ent j
    rw [hver,hokT,hat j]
    by_cases h:j=k
    ·rw [if_pos h];trivial
    ·rw [if_neg h]
     rw [qa7 _ _ h] at he
     cases hb:tat st.t j with
     |box t cs=>
      have ho:=hr.tok.ent j
      rw [hb] at ho
      obtain ⟨b,us,h1,h2,h3,h4,h5⟩:=ho
      refine ⟨b,us,h1,h2,h3,⟨by simp [h4.1],fun i c u hc hu=> ?_⟩,h5⟩
      rw [List.getElem?_map] at hc
      cases hq:cs[i]? with
      |none=>simp [hq] at hc
      |some q=>simp [hq] at hc;subst hc;exact qpA hr.tok hr.oldIn hk h0 2 _ _ (h4.2 i q u hq hu)
     |row v' e' s' b' xs'=>rw [hb] at he;exact he
     |dead=>trivial
     |ghost cs=>trivial
     |loop=>rw [hb] at he;exact he
     |gone=>trivial
  ·exact ⟨ι,hr⟩
 ·exact ⟨ι,hr⟩
theorem qbr{P:Program}{f:Operand}{args:List Operand}{dst:Option Tmp}{st:St}{K:St->Prop}(k:Nat)(h:qbI P f args dst (qsV k st) K):qbI P f args dst st K:=by
 unfold qbI at*
 exact fun o ho hd=>(h o ho hd).weak (qsz k st)
end
end Go.Nv
end
section
namespace Go.Nv
open Go.RowKit
def qBT(t:List B):S->S
 | .own j w=>match qcY t j with
  | .row v _ _ _ _=>match Nat.beq w v with|true=> .own j 0|false=> .top
  | .loop .. =>match Nat.beq w 0 with|true=> .own j 0|false=> .top
  |_=> .top
 | .ptr j w o=>match qcY t j with
  | .row v _ _ _ _=>match Nat.beq w v with|true=> .ptr j 0 o|false=> .top
  | .box _ _=>match Nat.beq w 0 with|true=> .ptr j 0 o|false=> .top
  |_=> .top
 | .d x=> .d x
 |_=> .top
def ql1(t:List B):Nat->S->S
 |0,s=>qBT t s
 |n+1,s=>match s with
  | .agg cs=>qor (cs.map (ql1 t n))
  | .clo g cs=> .clo g (cs.map (ql1 t n))
  | .tup cs=> .tup (cs.map (ql1 t n))
  |s=>qBT t s
def qbu{α β:Type}(f:α->β):List α->List β
 | [] => []
 |x::xs=>f x::qbu f xs
theorem qf5{α β:Type}(f:α->β)(l:List α):qbu f l=l.map f:=by induction l<;>simp [qbu, *]
def qdq(t:List B):B->B
 | .box ty cs=> .box ty (cs.map (ql1 t 2))
 | .ghost cs=> .ghost (qbu (ql1 t 3) cs)
 | .loop s pend ps asg body cs=> .loop s pend ps asg body (qbu (ql1 t 3) cs)
 | .row _ e s b xs=> .row 0 e s b xs
 |b=>b
def qcs:List B->List B
 | [] => []
 |b::t=>match qcs t with
  | [] =>match b with
   | .dead=> []
   |b=> [b]
  |x::t'=>b::x::t'
theorem qc6: ∀(l:List B) (j:Nat),tat (qcs l) j=tat l j\/(tat l j= .dead/\tat (qcs l) j= .gone)
 | [],j=> .inl rfl
 |b::t,j=>by
  have h0:tat (b::t) 0=b:=rfl
  have hs: ∀j,tat (b::t) (j+1)=tat t j:=fun j=>by simp [tat]
  unfold qcs
  cases ht:qcs t with
  |nil=>
   have ih:=qc6 t
   rw [ht] at ih
   have hn: ∀j,tat ([] :List B) j= .gone:=fun j=>by simp [tat]
   have h1: ∀j,tat t j= .gone\/tat t j= .dead:=fun j=>by
    rcases ih j with h|⟨h,_⟩
    ·rw [hn] at h;exact .inl h.symm
    ·exact .inr h
   simp only
   split
   ·cases j with
    |zero=>exact .inr ⟨h0,hn 0⟩
    |succ j=>
     rw [hs,hn]
     rcases h1 j with h|h
     ·exact .inl h.symm
     ·exact .inr ⟨h,rfl⟩
   ·cases j with
    |zero=>exact .inl rfl
    |succ j=>
     have:tat [b] (j+1)= .gone:=by simp [tat]
     rw [hs,this]
     rcases h1 j with h|h
     ·exact .inl h.symm
     ·exact .inr ⟨h,rfl⟩
  |cons x t'=>
   simp only
   cases j with
   |zero=>exact .inl rfl
   |succ j=>
    have:tat (b::x::t') (j+1)=tat (x::t') j:=by simp [tat]
    rw [hs,this, <-ht]
    exact qc6 t j
theorem qdQ(t0 t:List B)(j:Nat):tat (qbu (qdq t0) t) j=qdq t0 (tat t j):=by
 rw [qf5]
 unfold tat
 rw [List.getD_eq_getElem?_getD,List.getElem?_map,List.getD_eq_getElem?_getD]
 cases t[j]? with
 |none=>rfl
 |some b=>rfl
section
variable {W:World} {old bs:Nat->Prop} {ι:Nat->Value} {t:List B}
theorem qjF{t:List B}{j v:Nat}(hd:qdq t (tat t j)≠ .dead)(h:(qdq t (tat t j)).ver=some (some v)):qap (tat (qcs (qbu (qdq t) t))) j=some (some v):=by
 unfold qap
 rcases qc6 (qbu (qdq t) t) j with hq|⟨hq,_⟩
 ·rw [hq,qdQ];exact h
 ·rw [qdQ] at hq;exact absurd hq hd
theorem qx3(hT:TOk W old bs ι (tat t)): ∀(n:Nat) (s:S) (v:Value),qaG W ι (qap (tat t)) (okT bs (tat t) ι) s v->qaG W ι (qap (tat (qcs (qbu (qdq t) t)))) (okT bs (tat (qcs (qbu (qdq t) t))) ι) (ql1 t n s) v:=by
 have hlive: ∀j,(tat (qcs (qbu (qdq t) t)) j).live=(tat t j).live:=by
  intro j
  rcases qc6 (qbu (qdq t) t) j with h|⟨h1,h2⟩
  ·rw [h,qdQ];cases tat t j<;>rfl
  ·rw [h2]
   rw [qdQ] at h1
   cases hq:tat t j<;>rw [hq] at h1<;>simp [qdq] at h1<;>rfl
 have hokT:okT bs (tat (qcs (qbu (qdq t) t))) ι=okT bs (tat t) ι:=by
  funext b;unfold okT;simp only [hlive]
 rw [hokT]
 have hO: ∀(s:S) (v:Value),qaG W ι (qap (tat t)) (okT bs (tat t) ι) s v->qaG W ι (qap (tat (qcs (qbu (qdq t) t)))) (okT bs (tat t) ι) (qBT t s) v:=by
  intro s v hs
  unfold qBT
  split
  ·rename_i j w
   rw [qbd]
   split
   ·rename_i v' e sz b xs hk
    split
    ·rename_i h1
     have h1:=Nat.eq_of_beq_eq_true h1
     subst h1
     have:=qcw hs (qbl hk)
     exact .own (qaQ (qjF (by rw [hk];simp [qdq]) (by rw [hk];simp [qdq,B.ver]))) fun _=>this
    ·exact .top
   ·rename_i hk
    split
    ·rename_i h1
     have h1:=Nat.eq_of_beq_eq_true h1
     subst h1
     have:=qcw hs (by simp [qap,hk,B.ver])
     exact .own (qaQ (qjF (by rw [hk];simp [qdq]) (by rw [hk];simp [qdq,B.ver]))) fun _=>this
    ·exact .top
   ·exact .top
  ·rename_i j w o
   rw [qbd]
   split
   ·rename_i v' e sz b xs hk
    split
    ·rename_i h1
     have h1:=Nat.eq_of_beq_eq_true h1
     subst h1
     have:=qc1 hs (qbl hk)
     exact .ptr (qaQ (qjF (by rw [hk];simp [qdq]) (by rw [hk];simp [qdq,B.ver]))) fun _=>this
    ·exact .top
   ·rename_i bt cs hk
    split
    ·rename_i h1
     have h1:=Nat.eq_of_beq_eq_true h1
     subst h1
     have:=qc1 hs (by simp [qap,hk,B.ver])
     exact .ptr (qaQ (qjF (by rw [hk];simp [qdq]) (by rw [hk];simp [qdq,B.ver]))) fun _=>this
    ·exact .top
   ·exact .top
  ·cases hs with
   |d h=>exact .d h
  ·exact .top
 intro n
 induction n with
 |zero=>exact hO
 |succ n ih=>
  have hL: ∀(ss:List S) (us:List Value),qao W ι (qap (tat t)) (okT bs (tat t) ι) ss us->qao W ι (qap (tat (qcs (qbu (qdq t) t)))) (okT bs (tat t) ι) (ss.map (ql1 t n)) us:=by
   intro ss us h
   refine ⟨by simp [h.1],fun i c u hc hu=> ?_⟩
   rw [List.getElem?_map] at hc
   cases hq:ss[i]? with
   |none=>simp [hq] at hc
   |some q=>simp [hq] at hc;subst hc;exact ih _ _ (h.2 i q u hq hu)
  intro s v hs
  unfold ql1
  split
  ·rename_i cs
   obtain ⟨us,rfl,h2,h3⟩:=qkV hs
   exact qqk (hL _ _ h2) h3
  ·rename_i g cs
   cases hs with
   |clo hl hh=>
    have:=hL _ _ ⟨hl,hh⟩
    exact .clo this.1 this.2
  ·rename_i cs
   obtain ⟨us,rfl,h2⟩:=qmU hs
   have:=hL _ _ h2
   exact .tup this.1 this.2
  ·exact hO _ _ hs
theorem qnh(env:List S)(t:List B):qdl ⟨env,t⟩ ⟨qbu (ql1 t 3) env,qcs (qbu (qdq t) t)⟩:=by
 intro old bs w0 a W ι hr
 have hd:=qx3 (t:=t) hr.tok
 have hlive: ∀j,(tat (qcs (qbu (qdq t) t)) j).live=(tat t j).live:=by
  intro j
  rcases qc6 (qbu (qdq t) t) j with h|⟨h1,h2⟩
  ·rw [h,qdQ];cases tat t j<;>rfl
  ·rw [h2]
   rw [qdQ] at h1
   cases hq:tat t j<;>rw [hq] at h1<;>simp [qdq] at h1<;>rfl
 have hokT:okT bs (tat (qcs (qbu (qdq t) t))) ι=okT bs (tat t) ι:=by
  funext b;unfold okT;simp only [hlive]
 have hL: ∀{cs:List S} {us:List Value},qao W ι (qap (tat t)) (okT bs (tat t) ι) cs us->qao W ι (qap (tat (qcs (qbu (qdq t) t)))) (okT bs (tat (qcs (qbu (qdq t) t))) ι) (qbu (ql1 t 3) cs) us:=by
  intro cs us ho
  rw [show qbu (ql1 t 3) cs=cs.map (ql1 t 3) from qf5 _ _]
  refine ⟨by simp [ho.1],fun i c u hc hu=> ?_⟩
  rw [List.getElem?_map] at hc
  cases hq:cs[i]? with
  |none=>simp [hq] at hc
  |some q=>simp [hq] at hc;subst hc;exact hd 3 _ _ (ho.2 i q u hq hu)
 have hloop: ∀j,(tat (qcs (qbu (qdq t) t)) j).isLoop=true->(tat t j).isLoop=true:=by
  intro j hj
  rcases qc6 (qbu (qdq t) t) j with h|⟨h1,h2⟩
  ·rw [h,qdQ] at hj;cases hq:tat t j<;>rw [hq] at hj<;>simp_all [qdq,B.isLoop]
  ·rw [h2] at hj;simp [B.isLoop] at hj
 refine ⟨ι,hr.defers,hr.oldIn,hr.fr, ?_,hL hr.env,fun j=> ?gh,fun i j hi hj=>hr.lap i j (hloop i hi) (hloop j hj),hr.rnd⟩
 case gh=>
  have hg:=hr.gh j
  show qd0 W old ι (qap (tat (qcs (qbu (qdq t) t)))) (okT bs (tat (qcs (qbu (qdq t) t))) ι) (w0.gs j) j (tat (qcs (qbu (qdq t) t)) j)
  rcases qc6 (qbu (qdq t) t) j with hq|⟨_,hq⟩
  case inr=>rw [hq];trivial
  rw [hq,qdQ]
  rw [show (⟨env,t⟩:St).t=t from rfl] at hg
  cases hb:tat t j with
  |ghost cs=>rw [hb] at hg;exact hL hg
  |loop s pend ps asg body cs=>
   rw [hb] at hg
   obtain ⟨h1,h2,h3,h4,h5⟩:=hg
   exact ⟨h1,by rw [hokT];exact h2,h3,h4,hL h5⟩
  |_=>trivial
 ·refine ⟨hr.tok.bsn,fun j=> ?_,fun i j b hi hj=>by
   simp only [hlive] at hi hj;exact hr.tok.apart i j b hi hj⟩
  have he:=hr.tok.ent j
  show qiu W old ι (qap (tat (qcs (qbu (qdq t) t)))) (okT bs (tat (qcs (qbu (qdq t) t))) ι) j (tat (qcs (qbu (qdq t) t)) j)
  rcases qc6 (qbu (qdq t) t) j with hq|⟨_,hq⟩
  case inr=>rw [hq];trivial
  rw [hq,qdQ]
  cases hb:tat t j with
  |box ty cs=>
   rw [show (⟨env,t⟩:St).t=t from rfl,hb] at he
   obtain ⟨b,us,h1,h2,h3,h4,h5⟩:=he
   refine ⟨b,us,h1,h2,h3,⟨by simp [h4.1],fun i c u hc hu=> ?_⟩,h5⟩
   rw [List.getElem?_map] at hc
   cases hq:cs[i]? with
   |none=>simp [hq] at hc
   |some q=>simp [hq] at hc;subst hc;exact hd 2 _ _ (h4.2 i q u hq hu)
  |row v e s b xs=>
   rw [show (⟨env,t⟩:St).t=t from rfl,hb] at he
   rw [hokT];exact he
  |dead=>trivial
  |ghost cs=>trivial
  |loop=>rw [show (⟨env,t⟩:St).t=t from rfl,hb] at he;exact he
  |gone=>trivial
theorem qag{env env':List S}{t t':List B}(ht:leT (qcs (qbu (qdq t) t)) t')(h:leX (qbu (ql1 t 3) env) env'):qdl ⟨env,t⟩ ⟨env',t'⟩:=(qnh env t).trans (qa9 ht h)
end
section
variable {P:Program} {st:St} {K:St->Prop} {f:Operand} {args:List Operand} {dst:Option Tmp} {g:FuncId} {cap ds as res:List D}
theorem qa5(hf:evx st.env f= .d (.f g cap))(hd:qdY (args.map (evx st.env))=some ds)(h:Fun P g as res)(he:ds++cap=as)(hk:K ⟨qd2 st.env dst (qj4 res),st.t⟩):qbI P f args dst st K:=by
 subst he;exact qaa hf hd h hk
theorem qg0{t:List B}{K:qcN->S->Option (Nat×B)->Prop}(h:Fun P g as res)(he:ds=as)(k:K ⟨[],none⟩ (qj4 res) none):qlx P g ds t K:=by
 subst he;exact qab h k
end
end Go.Nv
end
section
namespace Go.Nv
open Go.RowKit
def qrR(T:Tb)(st:St):ResultVar->Option S
 | .tmp k=>some (lk st.env k)
 | .cell k ty=>match qg9 T ty with
  |some i=>match lk st.env k with
   | .ptr b ver off=>match qcY st.t b with
    | .box _ cs=>match Nat.beq ver 0 with|true=>qiW i cs off|false=>none
    |_=>none
   | .d (.p off cs)=>match qoj i cs off with|some d=>some (.d d)|none=>none
   |_=>none
  |none=>none
def qiq(T:Tb)(st:St):List ResultVar->Option (List S)
 | [] =>some []
 |r::rs=>match qrR T st r with|some s=>(match qiq T st rs with|some ss=>some (s::ss)|none=>none)|none=>none
def qAX:List S->S
 | [s] =>s
 |ss=> .tup ss
def qyi(T:Tb)(rs:List ResultVar)(k:Nat)(dst:Option Tmp)(K:St->Prop)(e:Ex)(st:St):Prop:=
 match e with
 | .exit _=>False
 |_=>match qiq T st rs with
  |some ss=>match qcY st.t k with
   | .ghost cs=>frc ⟨qd2 cs dst (qAX ss),qaX st.t k .dead⟩ K
   |_=>False
  |none=>False
def qcz(f:S):Option (FuncId×List S):=match f with
 | .d (.f g cap)=>some (g,qgJ cap)
 | .clo g cap=>some (g,cap)
 |_=>none
section
variable {P:Program} {T:Tb} {old bs:Nat->Prop} {w0:Ctx} {W:World} {ι:Nat->Value}
theorem qmr(hT:qcG P T){st:St}{a:Act}(h:Rel old bs w0 ι st a W){r:ResultVar}{s:S}(hr:qrR T st r=some s):
  ∃v,(qbK a.tmps r).run P W= .ok v W/\qaG W ι (qap (tat st.t)) (okT bs (tat st.t) ι) s v:=by
 cases r with
 |tmp k=>
  have hs:=h.ev (.tmp k)
  simp only [qrR,Option.some.injEq] at hr
  subst hr
  rw [qkw]
  exact ⟨a.tmps.getD k undef,rfl,hs⟩
 |cell k ty=>
  have hs:=h.ev (.tmp k)
  simp only [qrR] at hr
  simp only [ev,Act.eval] at hs
  rw [qkw,qbd] at hr
  split at hr
  ·rename_i i hi
   have hi:=hT ty i hi
   split at hr
   ·rename_i b ver off hb
    rw [hb] at hs
    split at hr
    ·rename_i bt cs hk
     split at hr
     ·rename_i hver
      have hver:=Nat.eq_of_beq_eq_true hver
      subst hver
      rw [qfn hi] at hr
      obtain ⟨b',hb',hv⟩:=qc1 hs (by simp [qap,hk,B.ver])
      have he:=h.tok.ent b
      rw [hk] at he
      obtain ⟨b2,us,hi2,_,hh,hsd,h1⟩:=he
      rw [hi2] at hb';simp [blk] at hb';subst hb'
      obtain ⟨v,hrun,hsv⟩:=qiA (P:=P) hi.und (qef hh) hsd h1 hr
      exact ⟨v,by simp [qbK,hv,asAddr,hrun],hsv⟩
     ·simp at hr
    ·simp at hr
   ·rename_i off cs hb
    rw [hb] at hs
    obtain ⟨b,base,us,hv,_,hok,hc,hd,h1⟩:=qx5 hs
    split at hr
    ·rename_i d hp
     rw [qfB hi] at hp
     simp at hr;subst hr
     obtain ⟨v,hrun,hdv⟩:=qk2 (P:=P) hi.und hc hd h1 hp
     exact ⟨v,by simp [qbK,hv,asAddr,hrun],.d hdv⟩
    ·simp at hr
   ·simp at hr
  ·simp at hr
theorem qha(hT:qcG P T){st:St}{a:Act}(h:Rel old bs w0 ι st a W): ∀{rs:List ResultVar} {ss:List S},qiq T st rs=some ss->
  ∃vs,(rs.mapM (qbK a.tmps)).run P W= .ok vs W/\qao W ι (qap (tat st.t)) (okT bs (tat st.t) ι) ss vs
 | [],ss,hr=>by simp [qiq] at hr;subst hr;exact ⟨[],by simp,qao.nil _ _ _ _⟩
 |r::rs,ss,hr=>by
  unfold qiq at hr
  split at hr
  ·rename_i s hs
   split at hr
   ·rename_i ss' hss
    simp at hr;subst hr
    obtain ⟨v,h1,h2⟩:=qmr hT h hs
    obtain ⟨vs,h3,h4⟩:=qha hT h hss
    exact ⟨v::vs,by simp [h1,h3],qao.cons h2 h4⟩
   ·simp at hr
  ·simp at hr
theorem qsj(hT:qcG P T){st:St}{a:Act}(h:Rel old bs w0 ι st a W){fn:Func}{ss:List S}(hr:qiq T st fn.results.toList=some ss):
  ∃v,(results fn a.tmps).run P W= .ok v W/\qaG W ι (qap (tat st.t)) (okT bs (tat st.t) ι) (qAX ss) v:=by
 obtain ⟨vs,hvs,hd⟩:=qha hT h hr
 have e:results fn a.tmps=(do let vs<-fn.results.mapM (qbK a.tmps);pure (if h:vs.size=1 then vs[0] else .tuple vs)):=rfl
 have e2:fn.results.mapM (qbK a.tmps)=List.toArray<$>fn.results.toList.mapM (qbK a.tmps):=by
  rw [Array.mapM_eq_mapM_toList]
 refine ⟨_,by rw [e,e2];simp [hvs];rfl, ?_⟩
 match ss,vs,hd with
 | [d], [v],hd=>exact hd.2 0 d v rfl rfl
 | [], [],hd=>exact .tup hd.1 hd.2
 |d::d'::ds,v::v'::vs,hd=>exact .tup hd.1 hd.2
 | [],v::vs,hd=>have:=hd.1;simp at this
 |d::ds, [],hd=>have:=hd.1;simp at this
 | [d],v::v'::vs,hd=>have:=hd.1;simp at this
 |d::d'::ds, [v],hd=>have:=hd.1;simp at this
theorem qhS{τ:Nat->B}(hT:TOk W old bs ι τ)(hN:qbO old W)(k:Nat):qax old bs W ι τ W ι (at_ τ k .dead):=by
 have hst:qax old bs W ι τ W (at_ ι k (ι k)) (at_ τ k .dead):=by
  refine hT.upd hN k .dead (ι k) (row:=none) ⟨rfl,rfl,rfl,Nat.le_refl _,fun _ _ _=>rfl⟩ (by simp) (by simp [B.live]) (fun c hc=>⟨none,rfl,by simp⟩) (fun _ _ _=>trivial)
 have hι:at_ ι k (ι k)=ι:=by funext j;unfold at_;split<;>simp_all
 rw [hι] at hst
 exact hst
theorem ghost_step{τ:Nat->B}(hT:TOk W old bs ι τ)(hN:qbO old W)(k:Nat)(hk:τ k= .gone)(cs:List S):TOk W old bs ι (at_ τ k (.ghost cs))/\(∀{ss:List S} {us:List Value},qao W ι (qap τ) (okT bs τ ι) ss us->qao W ι (qap (at_ τ k (.ghost cs))) (okT bs (at_ τ k (.ghost cs)) ι) ss us)/\qaY ι ι (qap τ) (qap (at_ τ k (.ghost cs)))/\okT bs (at_ τ k (.ghost cs)) ι=okT bs τ ι:=by
 have hlive: ∀j,(at_ τ k (.ghost cs) j).live=(τ j).live:=fun j=>by unfold at_;split<;>simp_all [B.live]
 have hokT:okT bs (at_ τ k (.ghost cs)) ι=okT bs τ ι:=by funext b;unfold okT;simp only [hlive]
 have hv:qaY ι ι (qap τ) (qap (at_ τ k (.ghost cs))):=by
  intro j c hj
  unfold qap at*
  by_cases e:j=k
  ·subst e;rw [hk] at hj;simp [B.ver] at hj
  ·rw [qa7 _ _ e];exact ⟨c,hj,fun m hm=>⟨m,hm,Nat.le_refl _,fun _=>rfl⟩⟩
 have hkp: ∀{ss:List S} {us:List Value},qao W ι (qap τ) (okT bs τ ι) ss us->qao W ι (qap (at_ τ k (.ghost cs))) (okT bs (at_ τ k (.ghost cs)) ι) ss us:=fun h=>by
  rw [hokT];exact h.keep (fun _ _ _=>rfl) (fun _ h _=>h) hv
 refine ⟨⟨hT.bsn,fun j=> ?_,fun i j b hi hj=>by rw [hlive] at hi hj;exact hT.apart i j b hi hj⟩,hkp,hv,hokT⟩
 by_cases e:j=k
 ·subst e;rw [qam];trivial
 ·rw [qa7 _ _ e,hokT]
  exact (hT.ent j).keep (fun _ _ _=>rfl) (fun _ h _=>h) hv rfl (fun _ _ _=>rfl)
theorem TOk.up{old':Nat->Prop}{τ:Nat->B}(h:TOk W old bs ι τ)(h1: ∀b,old b->old' b)(h2: ∀b,old' b->old b\/ ∃o,W.heap[b]? =some o/\isC o=false):TOk W old' bs ι τ:=by
 refine ⟨fun b hb=>h.bsn b fun ho=>hb (h1 b ho),fun k=> ?_,h.apart⟩
 have key: ∀b,(τ k).live=true->blk (ι k)=some b-> ¬old b-> ¬old' b:=fun b hl hb hn ho=>by
  rcases h2 b ho with h3|⟨o,h3,h4⟩
  ·exact hn h3
  ·exact h.nonpriv h3 h4 k hl hb
 have he:=h.ent k
 revert he key
 cases hk:τ k with
 |box t cs=>
  rintro key ⟨b,us,e1,e2,e3⟩
  exact ⟨b,us,e1,key b rfl (by rw [e1];rfl) e2,e3⟩
 |row v e s bt xs=>
  rintro key ⟨us,e1,e2,e3,e4⟩
  exact ⟨us,e1,e2,e3,fun b hb=>key b rfl hb (e4 b hb)⟩
 |dead=>intro _ _;trivial
 |gone=>intro _ _;trivial
 |ghost=>intro _ _;trivial
 |loop=>intro _ h;exact h
theorem TOk.down{old':Nat->Prop}{τ:Nat->B}(h:TOk W old' bs ι τ)(h1: ∀b,old b->old' b)(h2: ∀b,¬old b->bs b):TOk W old bs ι τ:=by
 refine ⟨h2,fun k=> ?_,h.apart⟩
 have he:=h.ent k
 revert he
 cases hk:τ k with
 |box t cs=>
  rintro ⟨b,us,e1,e2,e3⟩
  exact ⟨b,us,e1,fun ho=>e2 (h1 b ho),e3⟩
 |row v e s bt xs=>
  rintro ⟨us,e1,e2,e3,e4⟩
  exact ⟨us,e1,e2,e3,fun b hb ho=>e4 b hb (h1 b ho)⟩
 |dead=>intro _;trivial
 |gone=>intro _;trivial
 |ghost=>intro _;trivial
 |loop=>intro h;exact h
theorem qd0.oldS{old':Nat->Prop}{vr:Nat->Option (Option Nat)}{ok:Nat->Prop}{g:Gh}{k:Nat}{e:B}(h:qd0 W old ι vr ok g k e)(h1: ∀rec,W.heap[g.l]? =some (.loop rec)-> ¬old g.l-> ¬old' g.l):qd0 W old' ι vr ok g k e:=by
 cases e with
 |loop s pend ps asg body cs=>
  obtain ⟨e1,e2,e3,e4,e5⟩:=h
  exact ⟨e1,e2,e3.imp id (h1 _ e4),e4,e5⟩
 |ghost cs=>exact h
 |_=>trivial
theorem Rel.push{st:St}{a:Act}(hr:Rel old bs w0 ι st a W)(r':Option Nat)(hr': ∀l,r'=some l->bs l/\ ∃rec,W.heap[l]? =some (.loop rec)){env:List S}{tm:Array Value}:
  ∃old' w1,w1.w=W/\w1.r=r'/\(∀b,old b->old' b)/\(∀k,k≠st.t.length->w1.gs k=w0.gs k)/\
  (qao W ι (qap (at_ (tat st.t) st.t.length (.ghost st.env))) (okT bs (at_ (tat st.t) st.t.length (.ghost st.env)) ι) env tm.toList->
   Rel old' bs w1 ι ⟨env,qaH st.t st.t.length (.ghost st.env)⟩ {tmps:=tm,defers:= [] } W)/\
  ∀{st':St} {a':Act} {W':World} {ι':Nat->Value} {cs:List S},Rel old' bs w1 ι' st' a' W'->tat st'.t st.t.length= .ghost cs->
   Rel old bs w0 ι' ⟨cs,qaH st'.t st.t.length .dead⟩ a W'/\ ∀{s:S} {v:Value},qaG W' ι' (qap (tat st'.t)) (okT bs (tat st'.t) ι') s v->qaG W' ι' (qap (tat (qaH st'.t st.t.length .dead))) (okT bs (tat (qaH st'.t st.t.length .dead)) ι') s v:=by
 obtain ⟨Ds,hd1,hd2,hd3⟩:=hr.defers
 generalize hk:st.t.length=k
 have hgone:tat st.t k= .gone:=by rw [<-hk];exact qb7 _
 refine ⟨fun b=>old b\/b∈Ds,⟨W,fun j=>if j=k then ⟨a.tmps.toList,0,0,0⟩ else w0.gs j,r'⟩,rfl,rfl,fun b=> .inl,fun k' hk'=>if_neg hk',fun henv=> ?_,fun {st' a' W' ι' cs} hr' hgk=> ?_⟩
 ·have hat:tat (qaH st.t k (.ghost st.env))=at_ (tat st.t) k (.ghost st.env):=qaD ..
  obtain ⟨g1,g2,g3,g4⟩:=ghost_step hr.tok hr.oldIn k hgone st.env
  have hup: ∀b,(old b\/b∈Ds)->old b\/ ∃o,W.heap[b]? =some o/\isC o=false:=fun b hb=>hb.imp id fun h=>⟨_,(hd3 b h).2,rfl⟩
  refine ⟨⟨[],rfl,List.nodup_nil,by simp⟩,fun b hb=> ?_,Fr.refl _ _, ?_, ?_,fun j=> ?_,fun i j hi hj hl=> ?_,hr'⟩
  ·rcases hb with h|h
   ·exact hr.oldIn b h
   ·exact (Array.getElem?_eq_some_iff.1 (hd3 b h).2).1
  ·show TOk W _ bs ι (tat (qaH st.t k (.ghost st.env)))
   rw [hat];exact g1.up (fun b=> .inl) hup
  ·show qao W ι (qap (tat (qaH st.t k (.ghost st.env)))) (okT bs (tat (qaH st.t k (.ghost st.env))) ι) env tm.toList
   rw [hat];exact henv
  ·show qd0 W _ ι (qap (tat (qaH st.t k (.ghost st.env)))) (okT bs (tat (qaH st.t k (.ghost st.env))) ι) _ j (tat (qaH st.t k (.ghost st.env)) j)
   rw [hat]
   by_cases e:j=k
   ·subst e;rw [qam];simp only [if_true];exact g2 hr.env
   ·rw [qa7 _ _ e];simp only [if_neg e]
    refine qd0.oldS (qd0.keep (ok':=okT bs (at_ (tat st.t) k (.ghost st.env)) ι) (hr.gh j) (fun _ _ _=>rfl) (fun b hb _=>by rw [g4];exact hb) g3 (fun _=>rfl)) fun rec hrec hn=> ?_
    rintro (h|h)
    ·exact hn h
    ·rw [(hd3 _ h).2] at hrec;cases hrec
  ·have hne: ∀i,(tat (qaH st.t k (.ghost st.env)) i).isLoop=true->i≠k/\(tat st.t i).isLoop=true:=fun i hi=>by
    rw [hat] at hi
    by_cases e:i=k
    ·subst e;rw [qam] at hi;simp [B.isLoop] at hi
    ·rw [qa7 _ _ e] at hi;exact ⟨e,hi⟩
   obtain ⟨i1,i2⟩:=hne i hi
   obtain ⟨j1,j2⟩:=hne j hj
   simp only [if_neg i1,if_neg j1] at hl
   exact hr.lap i j i2 j2 hl
 ·have hds:=qhS hr'.tok hr'.oldIn k
  have hat2:tat (qaH st'.t k .dead)=at_ (tat st'.t) k .dead:=qaD ..
  have hgk':=hr'.gh k
  rw [hgk] at hgk'
  simp only [qd0,if_true] at hgk'
  have hdn: ∀b,old b->(old b\/b∈Ds):=fun b=> .inl
  refine ⟨⟨⟨Ds,hd1,hd2,fun D hD=>⟨(hd3 D hD).1,(hr'.fr.block D (.inr hD)).trans (hd3 D hD).2⟩⟩,fun b hb=>hr'.oldIn b (.inl hb),hr.fr.trans ⟨hr'.fr.os,hr'.fr.tape,hr'.fr.output,hr'.fr.size,fun b hb=>hr'.fr.block b (.inl hb),hr'.fr.loops⟩, ?_, ?_,fun j=> ?_,fun i j hi hj hl=> ?_,fun l hl=> ?_⟩,fun hs=> ?_⟩
  ·show TOk W' old bs ι' (tat (qaH st'.t k .dead))
   rw [hat2];exact hds.tok.down hdn hr.tok.bsn
  ·show qao W' ι' (qap (tat (qaH st'.t k .dead))) (okT bs (tat (qaH st'.t k .dead)) ι') cs a.tmps.toList
   rw [hat2];exact hds.sdenL hgk'
  ·show qd0 W' old ι' (qap (tat (qaH st'.t k .dead))) (okT bs (tat (qaH st'.t k .dead)) ι') (w0.gs j) j (tat (qaH st'.t k .dead) j)
   rw [hat2]
   by_cases e:j=k
   ·subst e;rw [qam];trivial
   ·rw [qa7 _ _ e]
    have:=hr'.gh j
    simp only [if_neg e] at this
    exact qd0.oldS (qd0.keep this hds.keep hds.ok hds.ver fun _=>rfl) fun rec hrec hn ho=>hn (.inl ho)
  ·have hne: ∀i,(tat (qaH st'.t k .dead) i).isLoop=true->i≠k/\(tat st'.t i).isLoop=true:=fun i hi=>by
    rw [hat2] at hi
    by_cases e:i=k
    ·subst e;rw [qam] at hi;simp [B.isLoop] at hi
    ·rw [qa7 _ _ e] at hi;exact ⟨e,hi⟩
   obtain ⟨i1,i2⟩:=hne i hi
   obtain ⟨j1,j2⟩:=hne j hj
   refine hr'.lap i j i2 j2 ?_
   simp only [if_neg i1,if_neg j1]
   exact hl
  ·obtain ⟨h1,rec,h2⟩:=hr.rnd l hl
   exact ⟨h1,hr'.fr.loops l rec h2⟩
  ·rw [hat2];exact hds.sden hs
theorem qoT{st:St}{a:Act}{r:Option Nat}{n:Nat}{o:Oper}{f:Operand}{args:List Operand}{g:FuncId}{cap:List S}(h:Rel old bs w0 ι st a W){ts:Array TypeId}(hop:o.op= .call {callee:= .value f,args:=args.toArray,argTypes:=ts})
  (hf:qcz (ev st.env f)=some (g,cap)) {R:Ending->World->Prop}
  (hc: ∀us,qao W ι (qap (tat st.t)) (okT bs (tat st.t) ι) (args.map (ev st.env)++cap) us->Calls P g us.toArray W R) (hb:qe8 P g)
  {Kw:Act->World->Prop} {Q:Exit->Act->World->Prop} (hR: ∀e W',R e W'-> ∃v,e= .returned v/\Kw (a.put o.dst v) W'):o.wpIn (FW r) n P a W Kw Q:=by
 have hfv:=h.ev f
 obtain ⟨cs,hfe,hcs⟩: ∃us,a.eval f= .func (.func g) #[] (List.toArray us)/\qao W ι (qap (tat st.t)) (okT bs (tat st.t) ι) cap us:=by
  unfold qcz at hf
  split at hf
  ·rename_i g' cap' he
   simp at hf;obtain ⟨rfl,rfl⟩:=hf
   rw [he] at hfv
   obtain ⟨us,h1,h2⟩:=qwv hfv
   have e: ∀ds,qgJ ds=ds.map .d:=by intro ds;induction ds<;>simp [qgJ, *]
   exact ⟨us,h1,by rw [e];exact qao.ofDen h2⟩
  ·rename_i g' cap' he
   simp at hf;obtain ⟨rfl,rfl⟩:=hf
   rw [he] at hfv
   generalize a.eval f=q at hfv
   cases hfv with
   |clo hl hh=>exact ⟨_,rfl,hl,hh⟩
  ·simp at hf
 have hargs:qao W ι (qap (tat st.t)) (okT bs (tat st.t) ι) (args.map (ev st.env)) (args.map a.eval):=by
  refine ⟨by simp,fun i c u hc hu=> ?_⟩
  rw [List.getElem?_map] at hc hu
  cases hq:args[i]? with
  |none=>simp [hq] at hc
  |some q=>simp [hq] at hc hu;subst hc;subst hu;exact h.ev q
 refine ⟨fun f _=>FW.fn r f, ?_⟩
 rw [Oper.semAt_eq _ _ _ (by rw [hop];simp)]
 have hrun:(execOp a.eval o).run P W= .ok (.enter g ((args.map a.eval++cs).toArray)) W:=by
  obtain ⟨fn,h1,h2,h3⟩:=hb
  obtain ⟨c,h2⟩:=Option.isSome_iff_exists.1 h2
  simp [execOp,hop,resolve,hfe,Deferred.ofValue,invoke,callFunc,h1,h2,h3]
  simp_all
 rw [hrun]
 refine ⟨by simp [FW,Fence.wide], ?_⟩
 refine CallsIn.mono (FW.calls (hc _ (hargs.append hcs))) fun e W' he=> ?_
 obtain ⟨v,rfl,hk⟩:=hR e W' he
 exact hk
theorem qhs{st:St}{K:St->Prop}{f:Operand}{args:List Operand}{dst:Option Tmp}{g:FuncId}{cap:List S}{fn:Func}{c:Code}(hm:P.follows .mixedOrders=true)(hT:qcG P T)
  (hcal:qcz (evx st.env f)=some (g,cap)) (hf:P.funcs[g]? =some fn) (hb:fn.body=some c) (hn:(fn.name== "runtime.NumGoroutine")=false)
  (h:Ok P c ⟨qd1 (qd1 (qbu (evx st.env) args) cap) (qq2 (fn.ntmps-(qcm args+qcm cap))),qaX st.t (qcm st.t) (.ghost st.env)⟩ (qyi T fn.results.toList (qcm st.t) dst K)):qbI P f args dst st K:=by
 unfold qbI
 rintro o ⟨ts,ho⟩ rfl
 rw [qbe] at hcal
 intro n old bs w0 a W ι Kw Q hr hK
 have happ: ∀xs ys:List S,qd1 xs ys=xs++ys:=by intro xs ys;induction xs<;>simp [qd1, *]
 refine qoT hr ho hcal (R:=fun e W'=> ∃v,e= .returned v/\Kw (a.put o.dst v) W') (hc:=fun us hd=> ?_) ⟨fn,hf,by rw [hb];rfl,hn⟩ (fun e W' he=>he)
 refine (callsIn_wide (n:=0)).1 (callsIn_of_wp_marks (F:=FW none) hf hb (FW.fn none g) ?_ rfl)
 rw [happ,happ,qf5,qbe,qh9,qaT,qaT,qaT,qbT] at h
 obtain ⟨old',w1,hw1,hr1,ho1,hgs,hpush,hpop⟩:=hr.push none (by simp) (env:=args.map (ev st.env)++cap++List.replicate (fn.ntmps-(args.length+cap.length)) .top) (tm:=us.toArray++Array.replicate (fn.ntmps-us.toArray.size) undef)
 have hrel:=hpush (by
  obtain ⟨g1,g2,g3,g4⟩:=ghost_step hr.tok hr.oldIn st.t.length (qb7 _) st.env
  have h1:=g2 hd
  have h2:qao W ι (qap (at_ (tat st.t) st.t.length (.ghost st.env))) (okT bs (at_ (tat st.t) st.t.length (.ghost st.env)) ι) (List.replicate (fn.ntmps-(args.length+cap.length)) .top) (List.replicate (fn.ntmps-us.length) undef):=by
   have hl:=hd.1
   simp at hl
   refine ⟨by simp [hl],fun i c u hc hu=> ?_⟩
   rw [List.getElem?_replicate] at hc
   split at hc
   ·simp at hc;subst hc;exact .top
   ·simp at hc
  simpa using h1.append h2)
 have hgo:=h 0 old' bs w1 _ W ι hrel
 rw [hr1] at hgo
 refine wpIn_mono hgo ?_
 rintro e a' W' ⟨x,st',ι',rfl,hfin,hr'⟩
 have hx:x= .ret\/x= .normal:=by cases x<;>simp [qyi] at hfin ⊢
 obtain ⟨ss,cs,hss,hgk,hk⟩: ∃ss cs,qiq T st' fn.results.toList=some ss/\tat st'.t st.t.length= .ghost cs/\K ⟨qfg cs o.dst (qAX ss),qaH st'.t st.t.length .dead⟩:=by
  have hfin:(match qiq T st' fn.results.toList with
   |some ss=>match qcY st'.t st.t.length with
    | .ghost cs=>frc ⟨qd2 cs o.dst (qAX ss),qaX st'.t st.t.length .dead⟩ K
    |_=>False
   |none=>False):=by cases x<;>first|exact hfin.elim|exact hfin
  split at hfin
  ·rename_i ss hss
   rw [qbd,qbT,qbq] at hfin
   split at hfin
   ·rename_i cs hg
    rw [qaF] at hfin
    exact ⟨ss,cs,hss,hg,hfin⟩
   ·exact hfin.elim
  ·exact hfin.elim
 have hout:=hr'.out (n:=0) (P:=P) (fn:=fn) (R:=fun e W'=> ∃v,e= .returned v/\Kw (a.put o.dst v) W') fun W2 hr2=>by
  obtain ⟨v,hrun,hsv⟩:=qsj hT hr2 hss
  obtain ⟨hp1,hp2⟩:=hpop hr2 hgk
  refine ⟨v,hrun,v,rfl,hK _ _ _ ι' hk ?_⟩
  exact hp1.put (t:=qaH st'.t st.t.length .dead) (qax.refl hp1.tok) (hp2 hsv)
 rcases hx with rfl|rfl
 ·exact hout
 ·exact hout
end
end Go.Nv
end
section
namespace Go.Nv
open Go.RowKit
def qzJ(rs:List ResultVar)(e:TypeId)(size:Nat)(res:List D)(x:Ex)(st:St):Prop:=
 match x with
 | .exit _=>False
 |_=>match rs with
  | [.tmp r] =>match lk st.env r with
   | .own k ver=>match qcY st.t k with
    | .row v e' size' _ xs=>ver=v/\e'=e/\size'=size/\xs=res
    |_=>False
   |_=>False
  |_=>False
theorem qiU{P:Program}{T:Tb}{g:FuncId}{fn:Func}{c:Code}{args res:List D}{e:TypeId}{size:Nat}(mu:Tmp->Bool)(hm:P.follows .mixedOrders=true)(hT:qcG P T)(hf:P.funcs[g]? =some fn)(hb:fn.body=some c)(hn:(fn.name== "runtime.NumGoroutine")=false)
  (h:go P T mu c (qeO args fn.ntmps) (qzJ fn.results.toList e size res)):qps P g args e size res:=by
 have h:=qkd hm hT c _ _ h
 rw [qk9] at h
 refine ⟨⟨fn,hf,by rw [hb];rfl,hn⟩,fun w ok us hd=> ?_⟩
 refine (callsIn_wide (n:=0)).1 (callsIn_of_wp_marks (F:=FW none) hf hb (FW.fn none g) ?_ rfl)
 let old:Nat->Prop:=fun b=>b<w.heap.size
 let bs:Nat->Prop:=fun b=>ok b\/w.heap.size<=b
 have hrel:Rel old bs ⟨w,fun _=>⟨[],0,0,0⟩,none⟩ (fun _=>undef) (qjm args fn.ntmps) {tmps:=us.toArray++Array.replicate (fn.ntmps-us.toArray.size) undef,defers:= [] } w:=qkF hd
 refine wpIn_mono (h 0 old bs _ _ w _ hrel) ?_
 rintro e' a' W' ⟨x,st,ι,rfl,hfin,hr⟩
 have hx:x= .ret\/x= .normal:=by cases x<;>simp [qzJ] at hfin ⊢
 obtain ⟨r,k,ver,bytes,hrs,hlk,hk⟩: ∃r k ver bytes,fn.results.toList= [.tmp r] /\lk st.env r= .own k ver/\tat st.t k= .row ver e size bytes res:=by
  have hfin:(match fn.results.toList with
   | [.tmp r] =>match lk st.env r with
    | .own k ver=>match qcY st.t k with
     | .row v e' size' _ xs=>ver=v/\e'=e/\size'=size/\xs=res
     |_=>False
    |_=>False
   |_=>False):=by cases x<;>first|exact hfin.elim|exact hfin
  split at hfin
  ·rename_i r hrs
   split at hfin
   ·rename_i k ver hlk
    rw [qbd] at hfin
    split at hfin
    ·rename_i v e' size' bytes xs hk
     obtain ⟨rfl,rfl,rfl,rfl⟩:=hfin
     exact ⟨r,k,ver,bytes,hrs,hlk,hk⟩
    ·exact hfin.elim
   ·exact hfin.elim
  ·exact hfin.elim
 have hout:=hr.out (n:=0) (P:=P) (fn:=fn) (R:=fun e' w'=> ∃v vs,e'= .returned v/\w'.ownsRow w.heap.size e size v res.length vs/\qaM w' (fun b=>(ok b\/w.heap.size<=b)/\blk v≠some b) (flat res) vs/\(∀(i:Nat) (u:Value),vs[i]? =some u->u.oneCell'=true)/\Below w.heap.size w w') fun W2 hr=>by
  have hs:=hr.ev (.tmp r)
  simp only [ev,Act.eval] at hs
  rw [qkw] at hlk
  rw [hlk] at hs
  have hv:=qcw hs (qbl hk)
  have hrun:(results fn a'.tmps).run P W2= .ok (ι k) W2:=by
   have e1:results fn a'.tmps=(do let vs<-fn.results.mapM (qbK a'.tmps);pure (if h:vs.size=1 then vs[0] else .tuple vs)):=rfl
   have e2:fn.results.mapM (qbK a'.tmps)=List.toArray<$>fn.results.toList.mapM (qbK a'.tmps):=by
    rw [Array.mapM_eq_mapM_toList]
   rw [e1,e2,hrs]
   simp [qbK,hv]
  have he:=hr.tok.ent k
  rw [hk] at he
  obtain ⟨vs,ho,hden,h1,hnew⟩:=he
  have hbel:Below w.heap.size w W2:=⟨hr.fr.os,hr.fr.tape,hr.fr.output,hr.fr.size,hr.fr.block⟩
  have hown:W2.ownsRow w.heap.size e size (ι k) res.length vs:=by
   refine ⟨ho.1,ho.2.imp id ?_⟩
   rintro ⟨g',cap',cur,q1,q2,q3⟩
   exact ⟨g',cap',cur,q1,Nat.le_of_not_lt (hnew g' (by rw [q1];rfl)),q3⟩
  have hden':qaM W2 (fun b=>(ok b\/w.heap.size<=b)/\blk (ι k)≠some b) (flat res) vs:=
   hden.keep (fun _ _ _=>rfl) fun b hb _=>⟨hb.1,hb.2 k (by rw [hk];rfl)⟩
  exact ⟨ι k,hrun,ι k,vs,rfl,hown,hden',h1,hbel⟩
 rcases hx with rfl|rfl
 ·exact hout
 ·exact hout
end Go.Nv
end
section
namespace Go.Nv
open Go.RowKit
def apL{α:Type}:List α->List α->List α
 | [],ys=>ys
 |x::xs,ys=>x::apL xs ys
theorem qBz{α:Type}(xs ys:List α):apL xs ys=xs++ys:=by induction xs<;>simp [apL, *]
def fl:Code->List Code
 | .seq a b=>apL (fl a) (fl b)
 |c=> [c]
def OkL(P:Program):List Code->St->(Ex->St->Prop)->Prop
 | [],st,K=>K .normal st
 |c::cs,st,K=>Ok P c st (lpX (fun st'=>OkL P cs st' K) K)
def goL(P:Program)(T:Tb)(mu:Tmp->Bool):List Code->St->(Ex->St->Prop)->Prop
 | [],st,K=>K .normal st
 |c::cs,st,K=>go P T mu c st (qDN (goL P T mu cs) K)
section
variable {P:Program} {T:Tb}
theorem Ok.seq{a b:Code}{st:St}{K:Ex->St->Prop}(h:Ok P a st (lpX (fun st'=>Ok P b st' K) K)):Ok P (.seq a b) st K:=by
 intro n old bs w0 A W ι hr
 refine wpIn_seq (wpIn_mono (h n old bs w0 A W ι hr) ?_)
 rintro e a' W' ⟨x',st',ι',rfl,hk,hrel⟩
 cases x' with
 |normal=>exact hk n old bs w0 a' W' ι' hrel
 |exit id=>exact ⟨.exit id,st',ι',rfl,hk,hrel⟩
 |ret=>exact ⟨.ret,st',ι',rfl,hk,hrel⟩
theorem qjV: ∀{cs:List Code} {st:St} {K K':Ex->St->Prop},(∀e st,K e st->K' e st)->OkL P cs st K->OkL P cs st K'
 | [],st,K,K',hk,h=>hk _ _ h
 |c::cs,st,K,K',hk,h=>Ok.mono h fun e st' h'=>by
  cases e with
  |normal=>exact qjV hk h'
  |exit i=>exact hk _ _ h'
  |ret=>exact hk _ _ h'
theorem qdw: ∀{xs ys:List Code} {st:St} {K:Ex->St->Prop},OkL P (xs++ys) st K↔OkL P xs st (lpX (fun st'=>OkL P ys st' K) K)
 | [],ys,st,K=>Iff.rfl
 |c::xs,ys,st,K=>by
  constructor
  ·intro h
   refine Ok.mono h fun e st' h'=> ?_
   cases e with
   |normal=>exact qdw.1 h'
   |exit i=>exact h'
   |ret=>exact h'
  ·intro h
   refine Ok.mono h fun e st' h'=> ?_
   cases e with
   |normal=>exact qdw.2 h'
   |exit i=>exact h'
   |ret=>exact h'
theorem qzG: ∀{c:Code} {st:St} {K:Ex->St->Prop},OkL P (fl c) st K->Ok P c st K:=by
 intro c
 have one: ∀{c:Code} {st:St} {K:Ex->St->Prop},OkL P [c] st K->Ok P c st K:=by
  intro c st K h
  refine Ok.mono h fun e st' h'=> ?_
  cases e<;>exact h'
 induction c with
 |seq a b iha ihb=>
  intro st K h
  unfold fl at h
  rw [qBz,qdw] at h
  refine Ok.seq (Ok.mono (iha h) fun e st' h'=> ?_)
  cases e with
  |normal=>exact ihb h'
  |exit i=>exact h'
  |ret=>exact h'
 |_=>intro st K h;exact one h
theorem qiK(hm:P.follows .mixedOrders=true)(hT:qcG P T){mu:Tmp->Bool}: ∀{cs:List Code} {st:St} {K:Ex->St->Prop},goL P T mu cs st K->OkL P cs st K
 | [],st,K,h=>h
 |c::cs,st,K,h=>Ok.mono (qkd hm hT c _ _ h) fun e st' h'=>by
  cases e with
  |normal=>exact qiK hm hT h'
  |exit i=>exact h'
  |ret=>exact h'
theorem qmz{cs:List Code}{st st':St}{K:Ex->St->Prop}(hw:qdl st st')(h:OkL P cs st' K)(hn:cs≠ []):OkL P cs st K:=by
 cases cs with
 |nil=>exact absurd rfl hn
 |cons c cs=>exact Ok.weak hw h
theorem qqh{α:Type}(n:Nat)(mu:Tmp->Bool)(J:α->St)(inv:α->Prop)(hm:P.follows .mixedOrders=true)(hT:qcG P T){c:Code}{st:St}{K:Ex->St->Prop}(hn:n<(fl c).length)
  (h1:goL P T mu ((fl c).take n) st (lpX (fun st'=> ∃y,inv y/\qdl st' (J y)) K))
  (h2: ∀y,inv y->OkL P ((fl c).drop n) (J y) K):Ok P c st K:=by
 refine qzG ?_
 rw [<-List.take_append_drop n (fl c),qdw]
 refine qjV (fun e st' hk=> ?_) (qiK hm hT h1)
 cases e with
 |normal=>
  obtain ⟨y,hy,hw⟩:=hk
  refine qmz hw (h2 y hy) ?_
  intro h0
  have:=congrArg List.length h0
  simp at this;omega
 |exit i=>exact hk
 |ret=>exact hk
theorem qen{α:Type}(n:Nat)(mu:Tmp->Bool)(J:α->St)(inv:α->Prop)(hm:P.follows .mixedOrders=true)(hT:qcG P T){cs:List Code}{st:St}{K:Ex->St->Prop}(hn:n<cs.length)
  (h1:goL P T mu (cs.take n) st (lpX (fun st'=> ∃y,inv y/\qdl st' (J y)) K))
  (h2: ∀y,inv y->OkL P (cs.drop n) (J y) K):OkL P cs st K:=by
 rw [<-List.take_append_drop n cs,qdw]
 refine qjV (fun e st' hk=> ?_) (qiK hm hT h1)
 cases e with
 |normal=>
  obtain ⟨y,hy,hw⟩:=hk
  refine qmz hw (h2 y hy) ?_
  intro h0
  have:=congrArg List.length h0
  simp at this;omega
 |exit i=>exact hk
 |ret=>exact hk
theorem qi1{g:FuncId}{fn:Func}{c:Code}{args res:List D}(hm:P.follows .mixedOrders=true)(hT:qcG P T)(hf:P.funcs[g]? =some fn)(hb:fn.body=some c)(hn:(fn.name== "runtime.NumGoroutine")=false)
  (h:Ok P c (qeO args fn.ntmps) (qDi T fn.results.toList res)):Fun P g args res:=by
 refine qzI.fn ?_
 have h2:Ok P c (qeO args fn.ntmps) (qB4 T fn.results.toList (· =res)):=h.mono fun e st hk=>by
  cases e with
  |exit i=>exact hk
  |normal=>exact ⟨res,hk,rfl⟩
  |ret=>exact ⟨res,hk,rfl⟩
 exact qiv hm hT hf hb hn h2
theorem qqS{α:Type}{st:St}{K:Ex->St->Prop}{body:Code}(I:α->St)(inv:α->Prop)(μ:α->Nat)(x0:α)(h0:inv x0)(hw:qdl st (I x0))
  (h: ∀x,inv x->Ok P body (I x) (lpX (fun st'=> ∃y,inv y/\μ y<μ x/\qdl st' (I y)) K)):OkC P (.loop body) st K:=by
 refine qcq (qqz (fun x:{x:α//inv x}=>I x.1) (fun x=>μ x.1) ⟨x0,h0⟩ hw ?_)
 rintro ⟨x,hx⟩
 refine (h x hx).mono ?_
 rintro e st' hk
 cases e with
 |normal=>obtain ⟨y,h1,h2,h3⟩:=hk;exact ⟨⟨y,h1⟩,h2,h3⟩
 |exit i=>exact hk
 |ret=>exact hk
end
end Go.Nv
end
section
namespace Go.Nv
open Go.RowKit
def qrV:List Tmp->List S->List S->List S
 |p::ps,x::xs,env=>qrV ps xs (st1 env p x)
 |_,_,env=>env
def qzW(k:Nat)(K:Ex->St->Prop)(e:Ex)(st:St):Prop:=
 match e with
 | .exit _=>False
 |_=>match qcY st.t k with
  | .loop s pend _ _ _ cs=>match s,pend with
   | .ready,none=>frc ⟨cs,qaX st.t k .dead⟩ (K .normal)
   | .done,some (.exit i)=>frc ⟨cs,qaX st.t k .dead⟩ (K (.exit i))
   | .done,some .ret=>frc ⟨cs,qaX st.t k .dead⟩ (K .ret)
   |_,_=>False
  |_=>False
def qrY(k:Nat)(C:St->Prop)(e:Ex)(st:St):Prop:=
 match e with
 | .normal=>match qcY st.t k with
  | .loop s pend ps asg body cs=>match s with
   | .ready=>frc ⟨st.env,qaX st.t k (.loop .busy pend ps asg body cs)⟩ C
   |_=>False
  |_=>False
 |_=>False
def qyV(k kk:Nat)(dst:Option Tmp)(K:St->Prop)(e:Ex)(st:St):Prop:=
 match qcY st.t kk with
 | .ghost env=>match qcY st.t k with
  | .loop s p ps asg body cs=>match s with
   | .busy=>match e with
    | .normal=>frc ⟨qd2 env dst tt',qaX (qaX st.t k (.loop .ready none ps asg body cs)) kk .dead⟩ K
    | .exit i=>frc ⟨qd2 env dst ff',qaX (qaX st.t k (.loop .done (some (.exit i)) ps asg body cs)) kk .dead⟩ K
    | .ret=>frc ⟨qd2 env dst ff',qaX (qaX st.t k (.loop .done (some .ret) ps asg body cs)) kk .dead⟩ K
   |_=>False
  |_=>False
 |_=>False
section
variable {P:Program} {T:Tb} {old bs:Nat->Prop} {w0:Ctx} {W:World} {ι:Nat->Value}
theorem Rel.turnLoop{st:St}{a:Act}(h:Rel old bs w0 ι st a W){k:Nat}{s s':LoopState}{p p':Option Code}{ps:Array Tmp}{asg body:Code}{cs:List S}(hk:tat st.t k= .loop s p ps asg body cs)(hno: ¬old (w0.gs k).l):
  Rel old bs w0 ι ⟨st.env,qaH st.t k (.loop s' p' ps asg body cs)⟩ a (W.putObj (w0.gs k).l (.loop {state:=s',pending:=p',fn:=(w0.gs k).fn,tmps:=(w0.gs k).tmps.toArray,params:=ps,assign:=asg,body:=body,defers:=(w0.gs k).D})):=by
 have hg:=h.gh k
 rw [hk] at hg
 obtain ⟨h1,h2,_,h4,h5⟩:=hg
 have ht:qob (w0.gs k).l W (W.putObj (w0.gs k).l (.loop {state:=s',pending:=p',fn:=(w0.gs k).fn,tmps:=(w0.gs k).tmps.toArray,params:=ps,assign:=asg,body:=body,defers:=(w0.gs k).D})):=
  .putObj h4 rfl rfl fun _ _=>⟨_,rfl⟩
 have hat:tat (qaH st.t k (.loop s' p' ps asg body cs))=at_ (tat st.t) k (.loop s' p' ps asg body cs):=qaD ..
 have hlive: ∀j,(at_ (tat st.t) k (.loop s' p' ps asg body cs) j).live=(tat st.t j).live:=fun j=>by
  unfold at_;split
  ·rename_i e;subst e;rw [hk];rfl
  ·rfl
 have hver:qap (at_ (tat st.t) k (.loop s' p' ps asg body cs))=qap (tat st.t):=by
  funext j;unfold qap at_;split
  ·rename_i e;subst e;rw [hk];rfl
  ·rfl
 have hokT:okT bs (at_ (tat st.t) k (.loop s' p' ps asg body cs)) ι=okT bs (tat st.t) ι:=by funext b;unfold okT;simp only [hlive]
 have hloop: ∀j,(at_ (tat st.t) k (.loop s' p' ps asg body cs) j).isLoop=(tat st.t j).isLoop:=fun j=>by
  unfold at_;split
  ·rename_i e;subst e;rw [hk];rfl
  ·rfl
 obtain ⟨Ds,hd1,hd2,hd3⟩:=h.defers
 refine ⟨⟨Ds,hd1,hd2,fun D hD=>⟨(hd3 D hD).1,(ht.rest D fun e=> ?_).trans (hd3 D hD).2⟩⟩,h.oldIn.turn ht,h.fr.trans (ht.fr hno), ?_, ?_,fun j=> ?_,fun i j hi hj=> ?_,fun l hl=> ?_⟩
 ·subst e;rw [(hd3 _ hD).2] at h4;cases h4
 ·show TOk _ old bs ι (tat (qaH st.t k (.loop s' p' ps asg body cs)))
  rw [hat]
  have hT:=h.tok.turn ht
  refine ⟨hT.bsn,fun j=> ?_,fun i j b hi hj=>by rw [hlive] at hi hj;exact hT.apart i j b hi hj⟩
  rw [hver,hokT]
  have:=hT.ent j
  by_cases e:j=k
  ·subst e;rw [qam];exact ⟨_,h1⟩
  ·rw [qa7 _ _ e];exact this
 ·show qao _ ι (qap (tat (qaH st.t k (.loop s' p' ps asg body cs)))) (okT bs (tat (qaH st.t k (.loop s' p' ps asg body cs))) ι) st.env a.tmps.toList
  rw [hat,hver,hokT];exact h.env.turn ht
 ·show qd0 _ old ι (qap (tat (qaH st.t k (.loop s' p' ps asg body cs)))) (okT bs (tat (qaH st.t k (.loop s' p' ps asg body cs))) ι) (w0.gs j) j (tat (qaH st.t k (.loop s' p' ps asg body cs)) j)
  rw [hat,hver,hokT]
  by_cases e:j=k
  ·subst e;rw [qam]
   exact ⟨h1,h2,.inr hno,World.putObj_heap_same (Array.getElem?_eq_some_iff.1 h4).1,h5.turn ht⟩
  ·rw [qa7 _ _ e]
   exact qd0.turn ht (h.gh j) fun hl he=>e (h.lap j k hl (by rw [hk];rfl) he)
 ·have hi:(tat (qaH st.t k (.loop s' p' ps asg body cs)) i).isLoop=true:=hi
  have hj:(tat (qaH st.t k (.loop s' p' ps asg body cs)) j).isLoop=true:=hj
  rw [hat,hloop] at hi hj
  exact h.lap i j hi hj
 ·obtain ⟨e1,rec,e2⟩:=h.rnd l hl
  by_cases e:l=(w0.gs k).l
  ·subst e;exact ⟨e1,ht.lp _ h4⟩
  ·exact ⟨e1,rec,(ht.rest l e).trans e2⟩
theorem Rel.pushL{st:St}{a:Act}(hr:Rel old bs w0 ι st a W){l D:Nat}{fn':FuncId}{ps:Array Tmp}{asg body:Code}
  (hl:W.heap[l]? =some (.loop {state:= .ready,pending:=none,fn:=fn',tmps:=a.tmps,params:=ps,assign:=asg,body:=body,defers:=D})) (hno: ¬old l) (hlap: ∀j,(tat st.t j).isLoop=true->(w0.gs j).l≠l)
  {env:List S} {tm:Array Value}:
  ∃old' w1 ι1,w1.w=W/\w1.r=none/\(w1.gs st.t.length).l=l/\(w1.gs st.t.length).tmps=a.tmps.toList/\(w1.gs st.t.length).fn=fn'/\(w1.gs st.t.length).D=D/\ι1 st.t.length= .func (.yield l) #[] #[] /\
  (∀{s:S} {v:Value},qaG W ι (qap (tat st.t)) (okT bs (tat st.t) ι) s v->qaG W ι1 (qap (at_ (tat st.t) st.t.length (.loop .ready none ps asg body st.env))) (okT bs (at_ (tat st.t) st.t.length (.loop .ready none ps asg body st.env)) ι1) s v)/\
  (qao W ι1 (qap (at_ (tat st.t) st.t.length (.loop .ready none ps asg body st.env))) (okT bs (at_ (tat st.t) st.t.length (.loop .ready none ps asg body st.env)) ι1) env tm.toList->
   Rel old' bs w1 ι1 ⟨env,qaH st.t st.t.length (.loop .ready none ps asg body st.env)⟩ {tmps:=tm,defers:= [] } W)/\
  ∀{st':St} {a':Act} {W':World} {ι':Nat->Value} {s:LoopState} {p:Option Code} {cs:List S} {ps':Array Tmp} {asg' body':Code},Rel old' bs w1 ι' st' a' W'->tat st'.t st.t.length= .loop s p ps' asg' body' cs->s≠ .busy->
   (∃rec,W'.heap[l]? =some (.loop rec)/\rec.state=s/\rec.pending=p/\Rel old bs w0 ι' ⟨cs,qaH st'.t st.t.length .dead⟩ a (W'.putObj l (.loop {rec with state:= .exhausted}))):=by
 obtain ⟨Ds,hd1,hd2,hd3⟩:=hr.defers
 generalize hk:st.t.length=k
 have hgone:tat st.t k= .gone:=by rw [<-hk];exact qb7 _
 generalize hnb:B.loop .ready none ps asg body st.env=nb
 have hat:tat (qaH st.t k nb)=at_ (tat st.t) k nb:=qaD ..
 have hlive: ∀j,(at_ (tat st.t) k nb j).live=(tat st.t j).live:=fun j=>by
  unfold at_;split
  ·rename_i e;subst e;rw [hgone, <-hnb];rfl
  ·rfl
 obtain ⟨ι1,hι1⟩: ∃ι1,ι1=at_ ι k (.func (.yield l) #[] #[]):=⟨_,rfl⟩
 have hi1: ∀j,(tat st.t j).live=true->ι1 j=ι j:=fun j hj=>by
  rw [hι1];refine qa7 _ _ fun e=> ?_
  subst e;rw [hgone] at hj;simp [B.live] at hj
 have hokT:okT bs (at_ (tat st.t) k nb) ι1=okT bs (tat st.t) ι:=by
  funext b;unfold okT;simp only [hlive]
  apply propext
  exact ⟨fun ⟨h1,h2⟩=>⟨h1,fun j hj=>by rw [<-hi1 j hj];exact h2 j hj⟩,fun ⟨h1,h2⟩=>⟨h1,fun j hj=>by rw [hi1 j hj];exact h2 j hj⟩⟩
 have hv:qaY ι ι1 (qap (tat st.t)) (qap (at_ (tat st.t) k nb)):=by
  intro j c hj
  unfold qap at*
  by_cases e:j=k
  ·subst e;rw [hgone] at hj;simp [B.ver] at hj
  ·rw [qa7 _ _ e];exact ⟨c,hj,fun m hm=>⟨m,hm,Nat.le_refl _,fun _=>by rw [hι1];exact qa7 _ _ e⟩⟩
 have hkp1: ∀{ss:S} {us:Value},qaG W ι (qap (tat st.t)) (okT bs (tat st.t) ι) ss us->qaG W ι1 (qap (at_ (tat st.t) k nb)) (okT bs (at_ (tat st.t) k nb) ι1) ss us:=fun h=>by
  rw [hokT];exact h.keep (fun _ _ _=>rfl) (fun _ h _=>h) hv
 have hkp: ∀{ss:List S} {us:List Value},qao W ι (qap (tat st.t)) (okT bs (tat st.t) ι) ss us->qao W ι1 (qap (at_ (tat st.t) k nb)) (okT bs (at_ (tat st.t) k nb) ι1) ss us:=fun h=>by
  rw [hokT];exact h.keep (fun _ _ _=>rfl) (fun _ h _=>h) hv
 refine ⟨fun b=>old b\/b∈Ds,⟨W,fun j=>if j=k then ⟨a.tmps.toList,l,fn',D⟩ else w0.gs j,none⟩,ι1,rfl,rfl,by simp,by simp,by simp,by simp,by rw [hι1];exact qam _ _ _,hkp1,fun henv=> ?_,fun {st' a' W' ι' s p cs ps' asg' body'} hr' hgk hs=> ?_⟩
 ·have hup: ∀b,(old b\/b∈Ds)->old b\/ ∃o,W.heap[b]? =some o/\isC o=false:=fun b hb=>hb.imp id fun h=>⟨_,(hd3 b h).2,rfl⟩
  have hT:TOk W old bs ι1 (at_ (tat st.t) k nb):=by
   refine ⟨hr.tok.bsn,fun j=> ?_,fun i j b hi hj h1 h2=> ?_⟩
   ·by_cases e:j=k
    ·subst e;rw [qam, <-hnb];exact ⟨l,by rw [hι1];exact qam _ _ _⟩
    ·rw [qa7 _ _ e,hokT]
     exact (hr.tok.ent j).keep (fun _ _ _=>rfl) (fun _ h _=>h) hv (by rw [hι1];exact qa7 _ _ e) (fun _ _ _=>rfl)
   ·rw [hlive] at hi hj
    rw [hi1 i hi] at h1;rw [hi1 j hj] at h2
    exact hr.tok.apart i j b hi hj h1 h2
  refine ⟨⟨[],rfl,List.nodup_nil,by simp⟩,fun b hb=> ?_,Fr.refl _ _, ?_, ?_,fun j=> ?_,fun i j hi hj hl'=> ?_,fun l hl=>by cases hl⟩
  ·rcases hb with h|h
   ·exact hr.oldIn b h
   ·exact (Array.getElem?_eq_some_iff.1 (hd3 b h).2).1
  ·show TOk W _ bs ι1 (tat (qaH st.t k nb))
   rw [hat];exact hT.up (fun b=> .inl) hup
  ·show qao W ι1 (qap (tat (qaH st.t k nb))) (okT bs (tat (qaH st.t k nb)) ι1) env tm.toList
   rw [hat];exact henv
  ·show qd0 W _ ι1 (qap (tat (qaH st.t k nb))) (okT bs (tat (qaH st.t k nb)) ι1) _ j (tat (qaH st.t k nb) j)
   rw [hat]
   by_cases e:j=k
   ·subst e;rw [qam, <-hnb];simp only [if_true]
    refine ⟨by rw [hι1];exact qam _ _ _, ?_,.inr ?_,by simpa using hl, ?_⟩
    ·rw [hnb,hokT];exact hr.tok.okNon hl rfl (hr.tok.bsn _ hno)
    ·rintro (h|h)
     ·exact hno h
     ·rw [(hd3 _ h).2] at hl;cases hl
    ·rw [hnb];exact hkp hr.env
   ·rw [qa7 _ _ e];simp only [if_neg e]
    refine qd0.oldS (qd0.keep (ok':=okT bs (at_ (tat st.t) k nb) ι1) (hr.gh j) (fun _ _ _=>rfl) (fun b hb _=>by rw [hokT];exact hb) hv (fun _=>by rw [hι1];exact qa7 _ _ e)) fun rec hrec hn=> ?_
    rintro (h|h)
    ·exact hn h
    ·rw [(hd3 _ h).2] at hrec;cases hrec
  ·have hi:(tat (qaH st.t k nb) i).isLoop=true:=hi
   have hj:(tat (qaH st.t k nb) j).isLoop=true:=hj
   rw [hat] at hi hj
   by_cases ei:i=k
   ·by_cases ej:j=k
    ·rw [ei,ej]
    ·rw [qa7 _ _ ej] at hj
     simp only [if_pos ei,if_neg ej] at hl'
     exact absurd hl'.symm (hlap j hj)
   ·rw [qa7 _ _ ei] at hi
    by_cases ej:j=k
    ·simp only [if_neg ei,if_pos ej] at hl'
     exact absurd hl' (hlap i hi)
    ·rw [qa7 _ _ ej] at hj
     simp only [if_neg ei,if_neg ej] at hl'
     exact hr.lap i j hi hj hl'
 ·have hgk0:=hr'.gh k
  rw [hgk] at hgk0
  have e0:(if k=k then (⟨a.tmps.toList,l,fn',D⟩:Gh) else w0.gs k)=⟨a.tmps.toList,l,fn',D⟩:=if_pos rfl
  simp only [e0] at hgk0
  obtain ⟨q1,q2,q3,q4,q5⟩:=hgk0
  simp only [if_true] at q1 q2 q3 q4 q5
  have hno': ¬(old l\/l∈Ds):=q3.resolve_left hs
  refine ⟨_,q4,rfl,rfl, ?_⟩
  have h3:=hr'.turnLoop (s':= .exhausted) (p':=p) hgk (by simpa using hno')
  simp only [if_true] at h3
  have hg3:tat (qaH st'.t k (.loop .exhausted p ps' asg' body' cs)) k= .loop .exhausted p ps' asg' body' cs:=by rw [qaD];exact qam _ _ _
  generalize hW:W'.putObj l (.loop {state:= .exhausted,pending:=p,fn:=fn',tmps:=a.tmps.toList.toArray,params:=ps',assign:=asg',body:=body',defers:=D})=W3 at h3
  have hds:=qhS h3.tok h3.oldIn k
  have hat3:tat (qaH (qaH st'.t k (.loop .exhausted p ps' asg' body' cs)) k .dead)=at_ (tat (qaH st'.t k (.loop .exhausted p ps' asg' body' cs))) k .dead:=qaD ..
  have hat2:tat (qaH st'.t k .dead)=at_ (tat (qaH st'.t k (.loop .exhausted p ps' asg' body' cs))) k .dead:=by
   rw [qaD,qaD]
   funext j
   unfold at_;split<;>rfl
  have hgk':=h3.gh k
  rw [hg3] at hgk'
  simp only [if_true] at hgk'
  have hdn: ∀b,old b->(old b\/b∈Ds):=fun b=> .inl
  refine ⟨⟨Ds,hd1,hd2,fun D' hD=>⟨(hd3 D' hD).1,(h3.fr.block D' (.inr hD)).trans (hd3 D' hD).2⟩⟩,fun b hb=>h3.oldIn b (.inl hb),hr.fr.trans ⟨h3.fr.os,h3.fr.tape,h3.fr.output,h3.fr.size,fun b hb=>h3.fr.block b (.inl hb),h3.fr.loops⟩, ?_, ?_,fun j=> ?_,fun i j hi hj hl=> ?_,fun l hl=> ?_⟩
  ·show TOk W3 old bs ι' (tat (qaH st'.t k .dead))
   rw [hat2];exact hds.tok.down hdn hr.tok.bsn
  ·show qao W3 ι' (qap (tat (qaH st'.t k .dead))) (okT bs (tat (qaH st'.t k .dead)) ι') cs a.tmps.toList
   rw [hat2];exact hds.sdenL hgk'.2.2.2.2
  ·show qd0 W3 old ι' (qap (tat (qaH st'.t k .dead))) (okT bs (tat (qaH st'.t k .dead)) ι') (w0.gs j) j (tat (qaH st'.t k .dead) j)
   rw [hat2]
   by_cases e:j=k
   ·subst e;rw [qam];trivial
   ·rw [qa7 _ _ e]
    have:=h3.gh j
    simp only [if_neg e] at this
    exact qd0.oldS (qd0.keep this hds.keep hds.ok hds.ver fun _=>rfl) fun rec hrec hn ho=>hn (.inl ho)
  ·have hne: ∀i,(tat (qaH st'.t k .dead) i).isLoop=true->i≠k/\(tat (qaH st'.t k (.loop .exhausted p ps' asg' body' cs)) i).isLoop=true:=fun i hi=>by
    rw [hat2] at hi
    by_cases e:i=k
    ·subst e;rw [qam] at hi;simp [B.isLoop] at hi
    ·rw [qa7 _ _ e] at hi;exact ⟨e,hi⟩
   obtain ⟨i1,i2⟩:=hne i hi
   obtain ⟨j1,j2⟩:=hne j hj
   refine h3.lap i j i2 j2 ?_
   simp only [if_neg i1,if_neg j1]
   exact hl
  ·obtain ⟨h1,rec,h2⟩:=hr.rnd l hl
   exact ⟨h1,h3.fr.loops l rec h2⟩
end
end Go.Nv
end
section
namespace Go.Nv
open Go.RowKit
section
variable {P:Program} {T:Tb} {old bs:Nat->Prop} {w0:Ctx} {W:World} {ι:Nat->Value}
theorem Rel.fval{st:St}{a:Act}(h:Rel old bs w0 ι st a W){f:Operand}{g:FuncId}{cap:List S}(hf:qcz (Nv.ev st.env f)=some (g,cap)):
  ∃us,a.eval f= .func (.func g) #[] (List.toArray us)/\qao W ι (qap (tat st.t)) (okT bs (tat st.t) ι) cap us:=by
 have hfv:=h.ev f
 unfold qcz at hf
 split at hf
 ·rename_i g' cap' he
  simp at hf;obtain ⟨rfl,rfl⟩:=hf
  rw [he] at hfv
  obtain ⟨us,h1,h2⟩:=qwv hfv
  have e: ∀ds,qgJ ds=ds.map .d:=by intro ds;induction ds<;>simp [qgJ, *]
  exact ⟨us,h1,by rw [e];exact qao.ofDen h2⟩
 ·rename_i g' cap' he
  simp at hf;obtain ⟨rfl,rfl⟩:=hf
  rw [he] at hfv
  generalize a.eval f=q at hfv
  cases hfv with
  |clo hl hh=>exact ⟨_,rfl,hl,hh⟩
 ·simp at hf
theorem Rel.enterLoop{st:St}{a:Act}(h:Rel old bs w0 ι st a W)(fn:FuncId)(ps:Array Tmp)(asg body:Code):
  ∃l mark W1 D,(Instr.enterLoop fn a.tmps ps asg body w0.r).run P W= .ok (l,mark) W1/\W.heap.size<=l/\
   W1.heap[l]? =some (.loop {state:= .ready,pending:=none,fn:=fn,tmps:=a.tmps,params:=ps,assign:=asg,body:=body,defers:=D})/\
   Rel old bs w0 ι st {a with defers:=mark++a.defers} W1/\ ∀f,a.eval f=({a with defers:=mark++a.defers}:Act).eval f:=by
 have fin: ∀(W1:World) (mark:List Deferred),W.grownBy W1 none->qyW old W1 (mark++a.defers)->Rel old bs w0 ι st {a with defers:=mark++a.defers} W1:=fun W1 mark hg hd=>by
  have hst:=h.tok.quiet h.oldIn hg
  exact ⟨hd,h.oldIn.step hst.fr.size,h.fr.trans hst.fr,hst.tok,hst.sdenL h.env,h.ghStep hst,h.lapStep hst,h.rndStep hst⟩
 obtain ⟨Ds,hd1,hd2,hd3⟩:=h.defers
 cases hr:w0.r with
 |none=>
  refine ⟨W.heap.size+1,_,_,W.heap.size,run_enterLoop_outer _ _ _ _ _,by omega, ?_,fin _ _ ?_ ?_,fun f=>by cases f<;>rfl⟩
  ·have:=World.alloc_heap_new (W.alloc (.deferred (some []))) (.loop {state:= .ready,pending:=none,fn,tmps:=a.tmps,params:=ps,assign:=asg,body,defers:=W.heap.size})
   rwa [World.size_alloc] at this
  ·exact (World.grownBy_alloc W _ none).trans (World.grownBy_alloc _ _ none)
  ·refine ⟨W.heap.size::Ds,by simp [hd1],List.nodup_cons.2 ⟨fun hm=> ?_,hd2⟩,fun D hD=> ?_⟩
   ·have:=(Array.getElem?_eq_some_iff.1 (hd3 _ hm).2).1;omega
   ·have hk: ∀b,b<W.heap.size->((W.alloc (.deferred (some []))).alloc (.loop {state:= .ready,pending:=none,fn,tmps:=a.tmps,params:=ps,assign:=asg,body,defers:=W.heap.size})).heap[b]? =W.heap[b]? :=fun b hb=>
     ((World.grownBy_alloc W (.deferred (some [])) none).trans (World.grownBy_alloc _ _ none)).block b hb (by simp)
    rcases List.mem_cons.1 hD with rfl|hD
    ·refine ⟨fun ho=>absurd (h.oldIn _ ho) (by omega), ?_⟩
     rw [(World.grownBy_alloc (W.alloc (.deferred (some []))) (.loop {state:= .ready,pending:=none,fn,tmps:=a.tmps,params:=ps,assign:=asg,body,defers:=W.heap.size}) none).block _ (by rw [World.size_alloc];omega) (by simp)]
     exact World.alloc_heap_new W _
    ·exact ⟨(hd3 D hD).1,(hk D (Array.getElem?_eq_some_iff.1 (hd3 D hD).2).1).trans (hd3 D hD).2⟩
 |some l0=>
  obtain ⟨_,rec,h2⟩:=h.rnd l0 hr
  refine ⟨W.heap.size,_,_,rec.defers,run_enterLoop_inner h2 _ _ _ _ _,by omega,World.alloc_heap_new W _,fin _ _ (World.grownBy_alloc W _ none) ?_,fun f=>by cases f<;>rfl⟩
  refine ⟨Ds,by simp [hd1],hd2,fun D hD=>⟨(hd3 D hD).1, ?_⟩⟩
  rw [(World.grownBy_alloc W _ none).block _ (Array.getElem?_eq_some_iff.1 (hd3 D hD).2).1 (by simp)]
  exact (hd3 D hD).2
theorem qno{st:St}{K:Ex->St->Prop}{f:Operand}{ps:Array Tmp}{asg body:Code}{g:FuncId}{cap:List S}{fn:Func}{c:Code}
  (hcal:qcz (evx st.env f)=some (g,cap)) (hf:P.funcs[g]? =some fn) (hb:fn.body=some c) (hn:(fn.name== "runtime.NumGoroutine")=false) (hres:fn.results= #[])
  (h:Ok P c ⟨.own (qcm st.t) 0::qd1 cap (qq2 (fn.ntmps-(1+qcm cap))),qaX st.t (qcm st.t) (.loop .ready none ps asg body st.env)⟩ (qzW (qcm st.t) K)):Ok P (.rangeFunc f ps asg body) st K:=by
 intro n old bs w0 a W ι hr
 rw [qbe] at hcal
 have happ: ∀xs ys:List S,qd1 xs ys=xs++ys:=by intro xs ys;induction xs<;>simp [qd1, *]
 rw [happ,qh9,qaT,qaT,qbT] at h
 refine wpIn_rangeFunc (fun fn' _=> ?_)
 obtain ⟨l,mark,W1,D,he,hl1,hl2,hr1,hev⟩:=hr.enterLoop (P:=P) fn' ps asg body
 obtain ⟨us,hfe,hcap⟩:=hr1.fval hcal
 rw [<-hev] at hfe
 have hgl: ∀j,(tat st.t j).isLoop=true->(w0.gs j).l≠l:=fun j hj e=>by
  have:=hr.gh j
  cases hq:tat st.t j with
  |loop s pend ps' asg' body' cs=>rw [hq] at this;have:=(Array.getElem?_eq_some_iff.1 this.2.2.2.1).1;omega
  |_=>rw [hq] at hj;simp [B.isLoop] at hj
 have hno: ¬old l:=fun ho=>absurd (hr.oldIn _ ho) (by omega)
 obtain ⟨old',w1,ι1,q1,q2,q3,q4,q5,q6,q7,q8,hpush,hpop⟩:=hr1.pushL hl2 hno hgl (env:= .own st.t.length 0::(cap++List.replicate (fn.ntmps-(1+cap.length)) .top)) (tm:=(#[.func (.yield l) #[] #[]] ++us.toArray)++Array.replicate (fn.ntmps-(#[Value.func (.yield l) #[] #[]] ++us.toArray).size) undef)
 have hrun:(invoke (.fn (.func g) us.toArray) #[.func (.yield l) #[] #[]]).run P W1= .ok (.enter g (#[.func (.yield l) #[] #[]] ++us.toArray)) W1:=by
  simp [invoke,callFunc,hf,hb,hn]
  simp_all
 refine ⟨l,mark,W1,{target:= .fn (.func g) us.toArray,args:= #[.func (.yield l) #[] #[]] },W1,g, #[.func (.yield l) #[] #[]] ++us.toArray,W1,he, ?_,fun f _=>FW.fn _ f,hrun,by simp [FW,Fence.wide], ?_⟩
 ·simp only [resolve,hfe]
  simp [go_sem]
 ·refine CallsIn.mono (R:=rangePost (FW w0.r) n P l (qrW old bs w0 K) {a with defers:=mark++a.defers}) (FW.calls ?_) (fun e w' h=>h)
  refine (callsIn_wide (n:=0)).1 (callsIn_of_wp_marks (F:=FW none) hf hb (FW.fn none g) ?_ rfl)
  have hrel:=hpush (by
   refine qao.cons (u:= .func (.yield l) #[] #[]) (us:=us++List.replicate (fn.ntmps-(1+us.length)) undef) ?_ ?_|>fun h=>by simpa [Nat.add_comm] using h
   ·exact .own (qaQ (by simp [qap,qam,B.ver])) fun _=>q7.symm
   ·refine qao.append ⟨hcap.1,fun i c u hc hu=>q8 (hcap.2 i c u hc hu)⟩ ⟨by simp [hcap.1];omega,fun i c u hc hu=> ?_⟩
    rw [List.getElem?_replicate] at hc
    split at hc
    ·simp at hc;subst hc;exact .top
    ·simp at hc)
  have hgo:=h 0 old' bs w1 _ W1 ι1 hrel
  rw [q2] at hgo
  refine wpIn_mono hgo ?_
  rintro e a' W' ⟨x,st',ι',rfl,hfin,hr'⟩
  have hx:x= .ret\/x= .normal:=by cases x<;>simp [qzW] at hfin ⊢
  obtain ⟨s,pend,ps',asg',body',cs,hgk,hs,hk⟩: ∃s pend ps' asg' body' cs,tat st'.t st.t.length= .loop s pend ps' asg' body' cs/\s≠ .busy/\
    ((pend=none/\K .normal ⟨cs,qaH st'.t st.t.length .dead⟩)\/(∃i,pend=some (.exit i)/\K (.exit i) ⟨cs,qaH st'.t st.t.length .dead⟩)\/(pend=some .ret/\K .ret ⟨cs,qaH st'.t st.t.length .dead⟩)):=by
   have hfin:(match qcY st'.t st.t.length with
    | .loop s pend _ _ _ cs=>match s,pend with
     | .ready,none=>frc ⟨cs,qaX st'.t st.t.length .dead⟩ (K .normal)
     | .done,some (.exit i)=>frc ⟨cs,qaX st'.t st.t.length .dead⟩ (K (.exit i))
     | .done,some .ret=>frc ⟨cs,qaX st'.t st.t.length .dead⟩ (K .ret)
     |_,_=>False
    |_=>False):=by cases x<;>first|exact hfin.elim|exact hfin
   rw [qbd,qbT] at hfin
   split at hfin
   ·rename_i s pend ps' asg' body' cs hq
    simp only [qaF] at hfin
    split at hfin
    ·exact ⟨_,_,_,_,_,_,hq,by simp,.inl ⟨rfl,hfin⟩⟩
    ·exact ⟨_,_,_,_,_,_,hq,by simp,.inr (.inl ⟨_,rfl,hfin⟩)⟩
    ·exact ⟨_,_,_,_,_,_,hq,by simp,.inr (.inr ⟨rfl,hfin⟩)⟩
    ·exact hfin.elim
   ·exact hfin.elim
  have hout:=hr'.out (n:=0) (P:=P) (fn:=fn) (R:=rangePost (FW w0.r) n P l (qrW old bs w0 K) {a with defers:=mark++a.defers}) fun W2 hr2=> ?_
  ·rcases hx with rfl|rfl
   ·exact hout
   ·exact hout
  ·obtain ⟨rec,hrec,hs1,hs2,hrf⟩:=hpop hr2 hgk hs
   refine ⟨.tuple #[],by simp [results,hres], ?_⟩
   ·subst hs2
    refine ⟨rec.pending,_,run_endLoop (P:=P) hrec (by rw [hs1];exact hs), ?_⟩
    rcases hk with ⟨e,hk⟩|⟨i,e,hk⟩|⟨e,hk⟩
    ·simp only [e] at hrf ⊢
     exact ⟨.normal,_,ι',rfl,hk,hrf⟩
    ·simp only [e] at hrf ⊢
     exact wpIn_exit ⟨.exit i,_,ι',rfl,hk,hrf⟩
    ·simp only [e] at hrf ⊢
     exact wpIn_ret ⟨.ret,_,ι',rfl,hk,hrf⟩
theorem qmH{ι:Nat->Value}{vr:Nat->Option (Option Nat)}{ok:Nat->Prop}: ∀(ps:List Tmp) {xs:List S} {us:List Value} {env:List S} {tm:Array Value},qao W ι vr ok xs us->qao W ι vr ok env tm.toList->
  qao W ι vr ok (qrV ps xs env) ((ps.zip us).foldl (fun (t:Array Value) (p,v)=>t.setIfInBounds p v) tm).toList
 | [],xs,us,env,tm,_,he=>by simpa [qrV] using he
 |p::ps, [],us,env,tm,hx,he=>by rw [hx.nil_inv];simpa [qrV] using he
 |p::ps,x::xs,us,env,tm,hx,he=>by
  obtain ⟨u,us',rfl,h1,h2⟩:=hx.cons_inv
  simp only [qrV,List.zip_cons_cons,List.foldl_cons]
  refine qmH ps h2 ?_
  rw [qqn]
  simpa using he.set h1 p
theorem qs4(ps:Array Tmp)(l:List Value)(tm:Array Value):(ps.zip l.toArray).foldl (fun (t:Array Value) (p,v)=>t.setIfInBounds p v) tm=(ps.toList.zip l).foldl (fun (t:Array Value) (p,v)=>t.setIfInBounds p v) tm:=by
 rw [<-Array.foldl_toList];simp
theorem qfx{st:St}{K:St->Prop}{f:Operand}{args:List Operand}{dst:Option Tmp}{k:Nat}{pend:Option Code}{ps:Array Tmp}{asg body:Code}{cs:List S}
  (hcal:evx st.env f= .own k 0) (hk:qcY st.t k= .loop .ready pend ps asg body cs) (hlen:args.length=ps.size)
  (h:Ok P asg ⟨qrV ps.toList (qbu (evx st.env) args) cs,qaX st.t (qcm st.t) (.ghost st.env)⟩ (qrY k fun st2=>Ok P body st2 (qyV k (qcm st.t) dst K))):qbI P f args dst st K:=by
 unfold qbI
 rintro o ⟨ts,ho⟩ rfl
 rw [qbe] at hcal h
 rw [qbd] at hk
 intro n old bs w0 a W ι Kw Q hr hK
 rw [qaT,qbT,qf5] at h
 have hg:=hr.gh k
 rw [hk] at hg
 obtain ⟨g1,g2,g3,g4,g5⟩:=hg
 have hno: ¬old (w0.gs k).l:=g3.resolve_left (by simp)
 have hf:a.eval f= .func (.yield (w0.gs k).l) #[] #[] :=by
  have:=hr.ev f
  rw [hcal] at this
  rw [qcw this (by simp [qap,hk,B.ver]),g1]
 have hargs:qao W ι (qap (tat st.t)) (okT bs (tat st.t) ι) (args.map (ev st.env)) (args.map a.eval):=by
  refine ⟨by simp,fun i c u hc hu=> ?_⟩
  rw [List.getElem?_map] at hc hu
  cases hq:args[i]? with
  |none=>simp [hq] at hc
  |some q=>simp [hq] at hc hu;subst hc;subst hu;exact hr.ev q
 refine ⟨fun f _=>FW.fn _ f, ?_⟩
 rw [Oper.semAt_eq _ _ _ (by rw [ho];simp)]
 have hrun:(execOp a.eval o).run P W= .ok (.round (w0.gs k).l (w0.gs k).fn ((ps.zip (args.map a.eval).toArray).foldl (fun t (p,v)=>t.setIfInBounds p v) (w0.gs k).tmps.toArray) asg body) W:=by
  have:=run_yield (P:=P) (args:=(args.map a.eval).toArray) g4 (by simpa using hlen)
  simp only at this
  rw [<-this]
  simp [execOp,ho,resolve,hf,Deferred.ofValue,invoke]
 rw [hrun,Oper.uponIn_round]
 refine ⟨by simp [FW,Fence.wide], ?_⟩
 obtain ⟨old',w1,hw1,hr1,ho1,hgs,hpush,hpop⟩:=hr.push (some (w0.gs k).l) (fun l hl=>by cases hl;exact ⟨g2.1,_,g4⟩) (env:=qrV ps.toList (args.map (ev st.env)) cs) (tm:=(ps.zip (args.map a.eval).toArray).foldl (fun t (p,v)=>t.setIfInBounds p v) (w0.gs k).tmps.toArray)
 obtain ⟨e1,e2,e3,e4⟩:=ghost_step hr.tok hr.oldIn st.t.length (qb7 _) st.env
 have hkl:k≠st.t.length:=fun e=>by subst e;rw [qb7] at hk;cases hk
 have hrel:=hpush (by
  have:=qmH (tm:=(w0.gs k).tmps.toArray) ps.toList (e2 hargs) (by simpa using e2 g5)
  rw [qs4]
  exact this)
 have hgk:=hgs k hkl
 have hno': ¬old' (w1.gs k).l:=by
  have:=hrel.gh k
  have e:tat (qaH st.t st.t.length (.ghost st.env)) k= .loop .ready pend ps asg body cs:=by rw [qaD,qa7 _ _ hkl];exact hk
  rw [show (⟨qrV ps.toList (args.map (ev st.env)) cs,qaH st.t st.t.length (.ghost st.env)⟩:St).t=qaH st.t st.t.length (.ghost st.env) from rfl,e] at this
  exact this.2.2.1.resolve_left (by simp)
 refine roundIn_of_wpIn (FW.fn _ _) ?_
 have h1:=h (n-1) old' bs w1 _ W ι hrel
 rw [hr1] at h1
 refine wpIn_mono h1 ?_
 rintro e a1 W1 ⟨x,st1,ι1,rfl,hx,hrel1⟩
 cases x with
 |exit i=>simp [qrY] at hx
 |ret=>simp [qrY] at hx
 |normal=>
  unfold qrY at hx
  rw [qbd,qbT] at hx
  simp only at hx
  split at hx
  ·rename_i s pend1 ps1 asg1 body1 cs1 hk1
   split at hx
   ·rw [qaF] at hx
    have hg1:=hrel1.gh k
    rw [hk1] at hg1
    obtain ⟨_,_,_,f4,_⟩:=hg1
    rw [hgk] at f4
    refine ⟨_,run_beginRound f4 rfl, ?_⟩
    have ht:=hrel1.turnLoop (s':= .busy) (p':=pend1) hk1 hno'
    rw [hgk] at ht
    have h2:=hx (n-1) old' bs w1 _ _ ι1 ht
    rw [hr1] at h2
    refine wpIn_mono h2 ?_
    rintro e a2 W2 ⟨x,st2,ι2,rfl,hy,hrel2⟩
    unfold qyV at hy
    simp only [qbd,qbT,qbq] at hy
    split at hy
    ·rename_i env hge
     split at hy
     ·rename_i s2 p2 ps2 asg2 body2 cs2 hk2
      split at hy
      ·have hg2:=hrel2.gh k
       rw [hk2] at hg2
       obtain ⟨_,_,_,f5,_⟩:=hg2
       rw [hgk] at f5
       have fin: ∀(s':LoopState) (p':Option Code),∃ι',Rel old bs w0 ι' ⟨env,qaH (qaH st2.t k (.loop s' p' ps2 asg2 body2 cs2)) st.t.length .dead⟩ a (W2.putObj (w0.gs k).l (.loop {state:=s',pending:=p',fn:=(w0.gs k).fn,tmps:=(w0.gs k).tmps.toArray,params:=ps2,assign:=asg2,body:=body2,defers:=(w0.gs k).D})):=fun s' p'=>by
        have ht2:=hrel2.turnLoop (s':=s') (p':=p') hk2 hno'
        rw [hgk] at ht2
        have hge2:tat (qaH st2.t k (.loop s' p' ps2 asg2 body2 cs2)) st.t.length= .ghost env:=by rw [qaD,qa7 _ _ (fun e=>hkl e.symm)];exact hge
        exact ⟨ι2,(hpop ht2 hge2).1⟩
       have put: ∀{b:Bool} {t:List B} {W3:World} {ι':Nat->Value},Rel old bs w0 ι' ⟨env,t⟩ a W3->Rel old bs w0 ι' ⟨qfg env o.dst (.d (.v (.bool b))),t⟩ (a.put o.dst (.bool b)) W3:=fun h=>h.put (t:=_) (qax.refl h.tok) (.d (.v rfl))
       cases x with
       |normal=>
        simp only [qaF] at hy
        obtain ⟨ι3,hf3⟩:=fin .ready none
        exact ⟨_,_,run_endRound none f5,hK _ _ _ ι3 hy (put hf3)⟩
       |exit i=>
        simp only [qaF] at hy
        obtain ⟨ι3,hf3⟩:=fin .done (some (.exit i))
        exact ⟨_,_,run_endRound (some (.exit i)) f5,hK _ _ _ ι3 hy (put hf3)⟩
       |ret=>
        simp only [qaF] at hy
        obtain ⟨ι3,hf3⟩:=fin .done (some .ret)
        exact ⟨_,_,run_endRound (some .ret) f5,hK _ _ _ ι3 hy (put hf3)⟩
      ·exact hy.elim
     ·exact hy.elim
    ·exact hy.elim
   ·exact hx.elim
  ·exact hx.elim
end
end Go.Nv
end
section
namespace Go.Nv
open Go.RowKit
theorem qot(k:Nat)(env:List S)(t:List B)(hg:(tat t k).gh=false):qdl ⟨env,t⟩ ⟨env,qaH t k .dead⟩:=by
 intro old bs w0 a W ι hr
 have hds:=qhS hr.tok hr.oldIn k
 have hat:tat (qaH t k .dead)=at_ (tat t) k .dead:=qaD ..
 refine ⟨ι,hr.defers,hr.oldIn,hr.fr, ?_, ?_, ?_, ?_,hr.rnd⟩
 ·show TOk W old bs ι (tat (qaH t k .dead));rw [hat];exact hds.tok
 ·show qao W ι (qap (tat (qaH t k .dead))) (okT bs (tat (qaH t k .dead)) ι) env a.tmps.toList
  rw [hat];exact hds.sdenL hr.env
 ·show∀j,qd0 W old ι (qap (tat (qaH t k .dead))) (okT bs (tat (qaH t k .dead)) ι) (w0.gs j) j (tat (qaH t k .dead) j)
  rw [hat];exact hr.ghStep hds
 ·show∀i j,(tat (qaH t k .dead) i).isLoop=true->(tat (qaH t k .dead) j).isLoop=true->(w0.gs i).l=(w0.gs j).l->i=j
  rw [hat];exact hr.lapStep hds
def ghB:B->Bool
 | .ghost .. =>true
 | .loop .. =>true
 |_=>false
theorem qai(k:Nat){env env':List S}{t t':List B}(hg:ghB (qcY t k)=false)(h:qdl ⟨env,qaX t k .dead⟩ ⟨env',t'⟩):qdl ⟨env,t⟩ ⟨env',t'⟩:=by
 rw [qbT] at h
 rw [qbd] at hg
 refine (qot k env t ?_).trans h
 cases hq:tat t k<;>rw [hq] at hg<;>simp_all [ghB,B.gh]
end Go.Nv
end
