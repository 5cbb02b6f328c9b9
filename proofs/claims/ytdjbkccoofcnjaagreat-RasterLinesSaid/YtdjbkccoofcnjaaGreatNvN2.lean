import Derived.Maps.AppendAt
import Derived.Great.BuildSlice
import Derived.Laws.AppendOwnNone
import Derived.Laws.MakeOwn
import Derived.Laws.BytesArg
import Derived.Test.YtdjbkccoofcnjaaGreatNvN1
set_option linter.all false
set_option maxRecDepth 100000
section
namespace Go.Nv
open Go.RowKit
section
variable {P:Program} {old bs:Nat→Prop} {W:World} {ι:Nat→Value} {τ:Nat→B} {ρ:Operand→Value} {σ:Operand→S} {o:Oper} {k0:Nat} {mu:Bool} {e:Eff}
theorem one_append{us vs:List Value}(h: ∀(i:Nat) (u:Value),us[i]? =some u→u.oneCell'=true)(k: ∀(i:Nat) (u:Value),vs[i]? =some u→u.oneCell'=true):
  ∀(i:Nat) (u:Value),(us++vs)[i]? =some u→u.oneCell'=true:=by
 intro i u hu
 rcases List.mem_append.1 (List.mem_of_getElem? hu) with h'|h'
 ·obtain ⟨j,hj⟩:=List.getElem?_of_mem h';exact h j u hj
 ·obtain ⟨j,hj⟩:=List.getElem?_of_mem h';exact k j u hj
theorem one_sub{us vs:List Value}(h: ∀(i:Nat) (u:Value),us[i]? =some u→u.oneCell'=true)(hs: ∀u∈vs,u∈us): ∀(i:Nat) (u:Value),vs[i]? =some u→u.oneCell'=true:=by
 intro i u hu
 obtain ⟨j,hj⟩:=List.getElem?_of_mem (hs u (List.mem_of_getElem? hu))
 exact h j u hj
theorem store_box(hT:TOk W old bs ι τ)(hN:OldIn old W){t:TypeId}{x y:Operand}(ho:o.op= .store t x y)(ht:(P.underlying t).isSome=true){k off:Nat}{bt:TypeId}{cs:List S}(hk:τ k= .box bt cs)
  (hx:SDen W ι (verT τ) (okT bs τ ι) (.ptr k 0 off) (ρ x)) (hy:SDenL W ι (verT τ) (okT bs τ ι) (σ y).cells (ρ y).cells.toList) (h1: ∀u∈(ρ y).cells.toList,u.oneCell'=true)
  (hl:off+(σ y).cells.length≤cs.length) (hsz:(σ y).cells.length=P.cellsOf t):
  OpOk P old bs W ι τ o ρ .top (some (k,.box bt (splice cs off (σ y).cells))):=by
 obtain ⟨dd,hdd⟩:=Option.isSome_iff_exists.1 ht
 have he:=hT.ent k
 rw [hk] at he
 obtain ⟨b,us,hi,hold,hh,hsd,h1u⟩:=he
 obtain ⟨b',hb',hv⟩:=sd_ptr hx (by simp [verT,hk,B.ver])
 rw [hi] at hb';simp [blk] at hb';subst hb'
 have hylen:(ρ y).cells.size=(σ y).cells.length:=by have:=hy.1;simpa using this
 obtain ⟨W',hr,hg,hs',cs',hb2,hcs'⟩:=run_opStore (P:=P) ho hdd b off hv hh (by rw [hylen,hsz]) (by rw [hylen];simp [hsd.1];omega) h1
 have hst:StepTo old bs W ι τ W' (at_ ι k (ι k)) (at_ τ k (.box bt (splice cs off (σ y).cells))):=by
  refine hT.upd hN k _ _ hg (by simp;rw [hk,hi];simp [blk,B.live]) (by intro b2 _ hb;right;rw [hk];exact ⟨rfl,hb⟩) (by intro c hc;rw [hk] at hc;exact ⟨c,hc,fun m e=>⟨m,e,Nat.le_refl _,fun _=>rfl⟩⟩) ?_
  intro hkeep hok hv'
  refine ⟨b,cs'.toList,by rw [at_same];exact hi,hold,by simpa using hb2, ?_, ?_⟩
  ·rw [hcs']
   have a1:=(hsd.take off).append hy
   have a2:=a1.append (hsd.drop (off+(σ y).cells.length))
   have:=a2.keep hkeep hok hv'
   rw [hylen]
   simpa [splice] using this
  ·rw [hcs']
   refine one_append (one_append (one_sub h1u fun u hu=> ?_) fun i u hu=>h1 u (List.mem_of_getElem? hu)) (one_sub h1u fun u hu=> ?_)
   ·simpa using List.mem_of_mem_take hu
   ·simpa using List.mem_of_mem_drop hu
 exact ⟨undef,W',at_ ι k (ι k),.inr ⟨hr,rfl⟩,hst,.top⟩
theorem flat_uni{size:Nat}: ∀{xs:List D},Uni size xs→(flat xs).length=xs.length*size
 | [],_=>by simp [flat]
 |x::xs,h=>by
  have h1:=flat_uni (xs:=xs) (fun y hy=>h y (List.mem_cons_of_mem _ hy))
  have h2:=h x (List.mem_cons_self ..)
  simp [flat] at h1 ⊢
  rw [Nat.add_mul]
  omega
theorem flat_append(xs ys:List D):flat (xs++ys)=flat xs++flat ys:=by simp [flat]
theorem flat_take{size:Nat}{xs:List D}(h:Uni size xs)(n:Nat):flat (xs.take n)=(flat xs).take (n*size):=by
 induction xs generalizing n with
 |nil=>simp [flat]
 |cons x xs ih=>
  cases n with
  |zero=>simp [flat]
  |succ n=>
   have h2:=h x (List.mem_cons_self ..)
   have h3:=ih (fun y hy=>h y (List.mem_cons_of_mem _ hy)) n
   simp [flat] at h3 ⊢
   rw [h3,List.take_append,h2,Nat.add_mul]
   have:List.take (n*size+1*size) x.cells=x.cells:=List.take_of_length_le (by omega)
   rw [this]
   congr 2
   omega
theorem flat_drop{size:Nat}{xs:List D}(h:Uni size xs)(n:Nat):flat (xs.drop n)=(flat xs).drop (n*size):=by
 induction xs generalizing n with
 |nil=>simp [flat]
 |cons x xs ih=>
  cases n with
  |zero=>simp [flat]
  |succ n=>
   have h2:=h x (List.mem_cons_self ..)
   have h3:=ih (fun y hy=>h y (List.mem_cons_of_mem _ hy)) n
   simp [flat] at h3 ⊢
   rw [h3,List.drop_append,h2,Nat.add_mul]
   have:List.drop (n*size+1*size) x.cells= [] :=List.drop_of_length_le (by omega)
   rw [this]
   simp
theorem flat_set{size:Nat}{xs:List D}(h:Uni size xs){i:Nat}{x:D}(hi:i<xs.length):flat (xs.set i x)=(flat xs).take (i*size)++x.cells++(flat xs).drop ((i+1)*size):=by
 rw [List.set_eq_take_append_cons_drop,if_pos hi,flat_append,flat_take h, ←flat_drop h]
 simp [flat]
theorem Den.notAgg{W:World}{ok:Nat→Prop}{d:D}{v:Value}(h:Den W ok d v)(h1:v.oneCell'=true):d.cells= [d] :=by
 cases h<;>first|rfl|simp [Value.oneCell'] at h1
theorem setElem_some{size:Nat}{xs xs':List D}{off:Nat}{ds:List D}(hu:Uni size xs)(h0:0<size)(hds: ∀d∈ds,d.cells= [d])(h:setElem size xs off ds=some xs'):
  xs'.length=xs.length∧off+ds.length≤(flat xs).length∧flat xs'=(flat xs).take off++ds++(flat xs).drop (off+ds.length):=by
 unfold setElem at h
 have hq:off=off/size*size+off%size:=by rw [Nat.mul_comm];exact (Nat.div_add_mod off size).symm
 have hr:off%size<size:=Nat.mod_lt _ h0
 generalize off/size=i at h hq
 generalize off%size=r at h hq hr
 subst hq
 simp only at h
 split at h
 ·rename_i cs hx
  have hi:i<xs.length:=(List.getElem?_eq_some_iff.1 hx).1
  have hcl:cs.length=size:=hu _ (List.mem_of_getElem? hx)
  split at h
  ·rename_i hle
   simp at h;subst h
   have hfl:=flat_uni hu
   have hfi:(i+1)*size≤xs.length*size:=Nat.mul_le_mul_right _ hi
   rw [Nat.add_mul] at hfi
   have hxe:xs.set i (.a cs)=xs:=by
    apply List.ext_getElem?
    intro j
    rw [List.getElem?_set]
    split
    ·rename_i e;subst e;simpa using hx.symm
    ·rfl
   have e0:flat xs=(flat xs).take (i*size)++cs++(flat xs).drop ((i+1)*size):=by
    have:=flat_set hu (x:= .a cs) hi
    rw [hxe] at this
    simpa [D.cells] using this
   have hA:((flat xs).take (i*size)).length=i*size:=by simp;omega
   refine ⟨by simp,by omega, ?_⟩
   rw [flat_set hu hi]
   generalize (flat xs).take (i*size)=A at*
   generalize (flat xs).drop ((i+1)*size)=C at*
   rw [e0]
   have t1:List.take (i*size+r) A=A:=List.take_of_length_le (by omega)
   have t2:List.take (r-size) C= [] :=by rw [show r-size=0 from by omega];rfl
   have t3:List.drop (i*size+r+ds.length) A= [] :=List.drop_of_length_le (by omega)
   have t4:List.drop (r+ds.length-size) C=C:=by rw [show r+ds.length-size=0 from by omega];rfl
   simp only [D.cells,List.take_append,List.drop_append,List.length_append,hA,hcl,t1,t2,t3,t4,List.append_assoc,List.append_nil,List.nil_append]
   rw [show i*size+r-i*size=r from by omega,show i*size+r+ds.length-i*size=r+ds.length from by omega,t2,t4]
   simp
  ·simp at h
 ·rename_i d hna hx
  have hi:i<xs.length:=(List.getElem?_eq_some_iff.1 hx).1
  have hcl:d.cells.length=size:=hu _ (List.mem_of_getElem? hx)
  have hd:d.cells= [d] :=by cases d<;>first|rfl|exact absurd rfl (hna _)
  rw [hd] at hcl
  simp at hcl
  subst hcl
  split at h
  ·rename_i d'
   simp at h;subst h
   have hfl:=flat_uni hu
   have hr0:r=0:=by omega
   subst hr0
   refine ⟨by simp,by simp;omega, ?_⟩
   rw [flat_set hu hi,hds d' (by simp)]
   simp
  ·simp at h
 ·simp at h
theorem verT_row{k v:Nat}{e:TypeId}{size bytes:Nat}{xs:List D}(hk:τ k= .row v e size bytes xs):verT τ k=some (some v):=by simp [verT,hk,B.ver]
theorem store_row(hT:TOk W old bs ι τ)(hN:OldIn old W){t:TypeId}{x y:Operand}(ho:o.op= .store t x y)(ht:(P.underlying t).isSome=true){k v off:Nat}{et:TypeId}{size bytes:Nat}{xs xs':List D}(hk:τ k= .row v et size bytes xs)
  (hx:SDen W ι (verT τ) (okT bs τ ι) (.ptr k v off) (ρ x)) {d:D} (hy:Den W (okT bs τ ι) d (ρ y)) (hs:setElem size xs off d.cells=some xs') (hsz:d.cells.length=P.cellsOf t) (hu:Uni size xs) (h0:0<size):
  OpOk P old bs W ι τ o ρ .top (some (k,.row v et size bytes xs')):=by
 obtain ⟨dd,hdd⟩:=Option.isSome_iff_exists.1 ht
 have he:=hT.ent k
 rw [hk] at he
 obtain ⟨us,hown,hd,h1u,hnew⟩:=he
 obtain ⟨hyl,hy1⟩:=hy.cellsL
 have hone: ∀c∈d.cells,c.cells= [c] :=by
  intro c hc
  obtain ⟨i,hi⟩:=List.getElem?_of_mem hc
  obtain ⟨u,hu',hdu⟩:=hyl.at hi
  exact hdu.notAgg (hy1 u (List.mem_of_getElem? hu'))
 obtain ⟨hlen,hle,hfl⟩:=setElem_some hu h0 hone hs
 obtain ⟨b,hb,hv⟩:=sd_ptr hx (verT_row hk)
 have hylen:(ρ y).cells.size=d.cells.length:=by have:=hyl.1;simpa using this
 rcases hown with ⟨hul,⟨hn,hz⟩|⟨g,cap,cur,hi,_,hh,hcap,hmax,hcs,htake⟩⟩
 ·rw [hn] at hb;simp [blk] at hb
 ·rw [hi] at hb;simp [blk] at hb;subst hb
  have huu:=flat_uni hu
  have hfc:(flat xs).length≤cur.size:=by rw [huu,hcs];exact Nat.mul_le_mul_right _ hcap
  obtain ⟨W',hr,hg,hs',cs',hb2,hcs'⟩:=run_opStore (P:=P) ho hdd g off hv hh (by rw [hylen,hsz]) (by rw [hylen];omega) hy1
  have hdl:=hd.1
  have hsz':cs'.size=cur.size:=by
   have:cs'.toList.length=cur.toList.length:=by rw [hcs',hylen];simp;omega
   simpa using this
  have htk:cs'.toList.take (xs'.length*size)=us.take off++(ρ y).cells.toList++us.drop (off+d.cells.length):=by
   rw [hcs',hylen,hlen, ←huu, ←hdl]
   have e1:us=cur.toList.take us.length:=by rw [hdl,huu];exact htake.symm
   have e2:us.take off=cur.toList.take off:=by rw [e1,List.take_take,Nat.min_eq_left (by omega)]
   have e3:us.drop (off+d.cells.length)=(cur.toList.take us.length).drop (off+d.cells.length):=by rw [←e1]
   rw [e2,e3]
   have l1:(cur.toList.take off).length=off:=by simp;omega
   have l2:((ρ y).cells.toList).length=d.cells.length:=by simpa using hylen
   rw [List.take_append,List.take_append,List.drop_take]
   rw [List.take_of_length_le (l:=cur.toList.take off) (by omega),List.take_of_length_le (l:=(ρ y).cells.toList) (by omega)]
   rw [List.length_append,l1,l2]
  have hst:StepTo old bs W ι τ W' (at_ ι k (ι k)) (at_ τ k (.row v et size bytes xs')):=by
   refine hT.upd hN k _ _ hg (by simp;rw [hk,hi];simp [blk,B.live]) (by intro b2 _ hb;right;rw [hk];exact ⟨rfl,hb⟩) (by intro c hc;rw [hk] at hc;exact ⟨c,hc,fun m e=>⟨m,e,Nat.le_refl _,fun _=>rfl⟩⟩) ?_
   intro hkeep hok hv'
   refine ⟨us.take off++(ρ y).cells.toList++us.drop (off+d.cells.length), ?_, ?_, ?_,by rw [at_same];exact hnew⟩
   ·rw [at_same,hi]
    refine ⟨?_,.inr ⟨g,cap,cs',by rw [hlen],Nat.zero_le _,hb2,by omega,hmax,by rw [hsz',hcs],htk⟩⟩
    rw [←htk];simp;rw [hsz',hcs,hlen];exact Nat.min_eq_left (Nat.mul_le_mul_right _ hcap)
   ·rw [hfl]
    exact (((hd.take off).append hyl).append (hd.drop (off+d.cells.length))).keep hkeep hok
   ·refine one_append (one_append (one_sub h1u fun u hu=> ?_) fun i u hu=>hy1 u (List.mem_of_getElem? hu)) (one_sub h1u fun u hu=> ?_)
    ·exact List.mem_of_mem_take hu
    ·exact List.mem_of_mem_drop hu
  exact ⟨undef,W',at_ ι k (ι k),.inr ⟨hr,rfl⟩,hst,.top⟩
theorem op_store(hT:TOk W old bs ι τ)(hN:OldIn old W){t:TypeId}{x y:Operand}(ho:o.op= .store t x y)(hx:SDen W ι (verT τ) (okT bs τ ι) (σ x) (ρ x))(hy:SDen W ι (verT τ) (okT bs τ ι) (σ y) (ρ y))
  (h:opA P k0 mu σ τ o.type (.store t x y)=some e) (hs:e.side):OpOk P old bs W ι τ o ρ e.val e.upd:=by
 simp only [opA] at h
 split at h
 ·rename_i ht
  split at h
  ·rename_i k ver off hp
   rw [hp] at hx
   split at h
   ·rename_i bt cs hk
    split at h
    ·rename_i hc
     obtain ⟨rfl,hl⟩:=hc
     simp at h;subst h
     simp only at hs
     obtain ⟨h1,h2⟩:=hy.cellsS hs.2 hT
     exact store_box hT hN ho ht hk hx h1 h2 hl hs.1
    ·simp at h
   ·rename_i v et size bytes xs hk
    split at h
    ·rename_i d hd
     split at h
     ·rename_i hv
      subst hv
      obtain ⟨xs',he,rfl⟩: ∃xs',setElem size xs off d.cells=some xs'∧_=e:=by simpa using h
      rw [hd] at hy
      cases hy with
      |d hy=>exact store_row hT hN ho ht hk hx hy he hs.1 hs.2.1 hs.2.2
     ·simp at h
    ·simp at h
   ·simp at h
  ·simp at h
 ·simp at h
theorem den_narrow{W:World}{ok:Nat→Prop}{off n:Nat}{cs:List D}{v:Value}(h:Den W ok (.p off cs) v)(h0:0<n)(hl:off+n≤cs.length):Den W ok (.p 0 ((cs.drop off).take n)) v:=by
 cases h with
 | @p _ base b _ us hne hlen hok hc hd h1=>
  have hd':DenL W ok cs us:=⟨hlen,hd⟩
  have hp:Cells W b (base+off) ((us.drop off).take n):=Cells.part hc off n
  have hd2:=(hd'.drop off).take n
  have:=Den.p (off:=0) (base:=base+off) (W:=W) (ok:=ok) (b:=b) (us:=(us.drop off).take n) (cs:=(cs.drop off).take n) (by
   intro hn
   have:=congrArg List.length hn
   simp [hlen] at this;omega) hd2.1 hok hp hd2.2 (sub_one h1 _ _)
  simpa using this
theorem flat_elem{size:Nat}{xs:List D}(hu:Uni size xs){i:Nat}{x:D}(hx:xs[i]? =some x):((flat xs).drop (i*size)).take size=x.cells∧i*size+size≤(flat xs).length∧x.cells.length=size:=by
 obtain ⟨hi,rfl⟩:=List.getElem?_eq_some_iff.1 hx
 have hsz:(xs[i]).cells.length=size:=hu _ (List.getElem_mem hi)
 have e:flat (xs.drop i)=(flat xs).drop (i*size):=flat_drop hu i
 have e2:flat (xs.drop i)=(xs[i]).cells++flat (xs.drop (i+1)):=by rw [List.drop_eq_getElem_cons hi];rfl
 refine ⟨by rw [←e,e2, ←hsz];simp, ?_,hsz⟩
 have:=flat_uni hu
 rw [this]
 have:(i+1)*size≤xs.length*size:=Nat.mul_le_mul_right _ hi
 rw [Nat.add_mul] at this;omega
theorem op_indexAddr(hT:TOk W old bs ι τ){xt:TypeId}{x i:Operand}(ho:o.op= .indexAddr xt x i)(hx:SDen W ι (verT τ) (okT bs τ ι) (σ x) (ρ x))(hi:SDen W ι (verT τ) (okT bs τ ι) (σ i) (ρ i))
  (h:opA P k0 mu σ τ o.type (.indexAddr xt x i)=some e) (hs:e.side):OpOk P old bs W ι τ o ρ e.val e.upd:=by
 simp only [opA] at h
 split at h
 ·rename_i xs kk n ee h1 h2 h3
  cases hy:xs[n.toNat]? with
  |none=>simp [hy] at h
  |some y=>
  simp [hy] at h;subst h
  obtain ⟨g0,hu,h0⟩:=hs
  have hlt:n.toNat<xs.length:=(List.getElem?_eq_some_iff.1 hy).1
  have g1:n<xs.length:=by omega
  obtain ⟨q1,q2,q3⟩:=flat_elem hu hy
  rw [h1] at hx;rw [h2] at hi
  obtain ⟨A,cap,hv,_,_,_,hrow⟩:=sd_l hx
  have hfl:=flat_uni hu
  have hne:flat xs≠ [] :=by
   intro hn
   rw [hn] at hfl
   have:0<xs.length*P.cellsOf ee:=Nat.mul_pos (by omega) h0
   simp at hfl;omega
  obtain ⟨b,off,us,rfl,hne',hok,hc,hd,h1'⟩:=hrow hne
  have ht:P.underlying xt=some (.slice ee):=by
   unfold elemT at h3;split at h3
   ·rename_i h4;simp at h3;subst h3;exact h4
   ·simp at h3
  refine OpOk.pure hT (run_opIndexAddr ho ht hv (sd_v hi).1 g0 g1 (by omega)) ?_
  have:=den_narrow (Den.p (off:=n.toNat*P.cellsOf ee) hne' hd.1 hok hc hd.2 h1') h0 q2
  rw [q1] at this
  exact .d this
 ·rename_i k ver kk n ee h1 h2 h3
  split at h
  ·rename_i v et size bytes xs hk
   simp at h;subst h
   obtain ⟨rfl,hsz,g0,g1,hu,h0⟩:=hs
   rw [h1] at hx;rw [h2] at hi
   have hv:=sd_own hx (verT_row hk)
   have he:=hT.ent k
   rw [hk] at he
   obtain ⟨us,hown,_⟩:=he
   have ht:P.underlying xt=some (.slice ee):=by
    unfold elemT at h3;split at h3
    ·rename_i h4;simp at h3;subst h3;exact h4
    ·simp at h3
   rcases hown.2 with ⟨hn,hz⟩|⟨g,cap,cur,hiv,_⟩
   ·omega
   ·rw [hiv] at hv
    refine OpOk.pure hT (run_opIndexAddr ho ht hv (sd_v hi).1 g0 g1 (by omega)) ?_
    refine .ptr (seen_now (verT_row hk)) fun _=>⟨g,by rw [hiv];rfl, ?_⟩
    simp [hsz]
  ·simp at h
 ·simp at h
theorem op_nilCheck(hT:TOk W old bs ι τ){x:Operand}(ho:o.op= .nilCheck x)(hx:SDen W ι (verT τ) (okT bs τ ι) (σ x) (ρ x))
  (h:opA P k0 mu σ τ o.type (.nilCheck x)=some e) (hs:e.side):OpOk P old bs W ι τ o ρ e.val e.upd:=by
 simp only [opA] at h
 split at h
 ·rename_i off cs h1
  simp at h;subst h
  rw [h1] at hx
  obtain ⟨b,base,us,hv,_⟩:=sd_p hx
  exact OpOk.pure hT (v:=ρ x) (by simp [execOp,ho,hv]) hx
 ·rename_i k ver off h1
  simp at h;subst h
  rw [h1] at hx
  obtain ⟨b,hb,hv⟩:=sd_ptr hx hs
  exact OpOk.pure hT (v:=ρ x) (by simp [execOp,ho,hv]) hx
 ·rename_i g cap h1
  simp at h;subst h
  rw [h1] at hx
  obtain ⟨us,hv,_⟩:=sd_f hx
  exact OpOk.pure hT (v:=ρ x) (by simp [execOp,ho,hv]) hx
 ·simp at h
theorem elemT_some{t e:TypeId}(h:elemT P t=some e):P.underlying t=some (.slice e):=by
 unfold elemT at h;split at h
 ·rename_i h4;simp at h;subst h;exact h4
 ·simp at h
theorem op_len(hT:TOk W old bs ι τ){args:Array Operand}{ts:Array TypeId}(ho:o.op= .call {callee:= .builtin .len,args:=args,argTypes:=ts})(hx: ∀x,SDen W ι (verT τ) (okT bs τ ι) (σ x) (ρ x))
  (h:opA P k0 mu σ τ o.type (.call {callee:= .builtin .len,args:=args,argTypes:=ts})=some e) (hs:e.side):OpOk P old bs W ι τ o ρ e.val e.upd:=by
 simp only [opA] at h
 split at h
 ·rename_i x t hargs hts
  have ha:args= #[x] :=by cases args;simp_all
  have hb:ts= #[t] :=by cases ts;simp_all
  subst ha;subst hb
  have hx:=hx x
  split at h
  ·rename_i xs h1
   simp at h;subst h
   rw [h1] at hx
   obtain ⟨A,cap,hv,_⟩:=sd_l hx
   obtain ⟨et,he⟩:=Option.isSome_iff_exists.1 hs
   exact OpOk.pure hT (by simp [execOp,ho,resolve,invoke,builtin,Builtin.len_,hv,goInt,underlying,elemT_some he]) (.d (.v rfl))
  ·rename_i s h1
   simp at h;subst h
   rw [h1] at hx
   have hv:=(sd_v hx).1
   have hs:P.underlying t=some .string:=hs
   exact OpOk.pure hT (by simp [execOp,ho,resolve,invoke,builtin,Builtin.len_,hv,goInt,underlying,hs]) (.d (.v rfl))
  ·rename_i k ver h1
   split at h
   ·rename_i v et size bytes xs hk
    simp at h;subst h
    obtain ⟨rfl,hs⟩:=hs
    rw [h1] at hx
    have hv:=sd_own hx (verT_row hk)
    have he:=hT.ent k
    rw [hk] at he
    obtain ⟨us,hown,_⟩:=he
    have hl: ∃A cap,ι k= .slice A xs.length cap:=by
     rcases hown.2 with ⟨hn,hz⟩|⟨g,cap,cur,hiv,_⟩
     ·exact ⟨none,0,by rw [hn,hz]⟩
     ·exact ⟨_,_,hiv⟩
    obtain ⟨A,cap,hl⟩:=hl
    rw [hl] at hv
    obtain ⟨et',he'⟩:=Option.isSome_iff_exists.1 hs
    exact OpOk.pure hT (by simp [execOp,ho,resolve,invoke,builtin,Builtin.len_,hv,goInt,underlying,elemT_some he']) (.d (.v rfl))
   ·simp at h
  ·simp at h
 ·simp at h
end
end Go.Nv
end
section
namespace Go.Nv
open Go.RowKit
section
variable {P:Program} {old bs:Nat→Prop} {W:World} {ι:Nat→Value} {τ:Nat→B} {ρ:Operand→Value} {σ:Operand→S} {o:Oper} {k0:Nat} {mu:Bool} {e:Eff}
theorem TOk.rowTo(hT:TOk W old bs ι τ)(hN:OldIn old W){k v v2:Nat}{e:TypeId}{size bytes:Nat}{xs ys:List D}{W':World}{v':Value}{us:List Value}(hk:τ k= .row v e size bytes xs)(hv2:v≤v2)(hveq:v=v2→v'=ι k)
  (hg:W.grownBy W' (ι k).ownBlock) (hblk:v'.ownBlock=(ι k).ownBlock∨v'.ownBlock=some W.heap.size) (hown:W'.ownsRow 0 e size v' ys.length us)
  (hd: ∀ok',(∀b,okT bs τ ι b→b<W.heap.size→ok' b)→DenL W' ok' (flat ys) us) (h1: ∀(i:Nat) (u:Value),us[i]? =some u→u.oneCell'=true):
  StepTo old bs W ι τ W' (at_ ι k v') (at_ τ k (.row v2 e size bytes ys)):=by
 have he:=hT.ent k
 rw [hk] at he
 obtain ⟨us0,hown0,_,_,hnew⟩:=he
 have hb0:=blk_own _ _ hown0
 have hb1:=blk_own _ _ hown
 refine hT.upd hN k _ _ hg (fun b hb=> ?_) (fun b _ hb=> ?_) (fun c hc=> ?_) (fun hkeep hok hv=> ?_)
 ·rw [hk];exact ⟨rfl,by rw [hb0];exact hb⟩
 ·rw [hb1] at hb
  rcases hblk with h|h
  ·right;rw [hk];exact ⟨rfl,by rw [hb0, ←h];exact hb⟩
  ·left;rw [h] at hb;simp at hb;omega
 ·rw [hk] at hc;simp [B.ver] at hc;subst hc
  exact ⟨some v2,rfl,fun m' e=>by simp at e;subst e;exact ⟨v,rfl,hv2,hveq⟩⟩
 ·refine ⟨us,by rw [at_same];exact hown,hd _ hok,h1,fun b hb ho=> ?_⟩
  rw [at_same,hb1] at hb
  rcases hblk with h|h
  ·exact hnew b (by rw [hb0, ←h];exact hb) ho
  ·rw [h] at hb;simp at hb;have:=hN b ho;omega
theorem op_append(hT:TOk W old bs ι τ)(hN:OldIn old W){args:Array Operand}{ts:Array TypeId}(ho:o.op= .call {callee:= .builtin .append,args:=args,argTypes:=ts})(hx: ∀x,SDen W ι (verT τ) (okT bs τ ι) (σ x) (ρ x))
  (h:opA P k0 mu σ τ o.type (.call {callee:= .builtin .append,args:=args,argTypes:=ts})=some e) (hs:e.side):OpOk P old bs W ι τ o ρ e.val e.upd:=by
 simp only [opA] at h
 split at h
 ·rename_i s x t t' hargs hts
  have ha:args= #[s,x] :=by cases args;simp_all
  have hb:ts= #[t,t'] :=by cases ts;simp_all
  subst ha;subst hb
  split at h
  ·rename_i k ver ys ee h1 h2 h3
   have hsd:=hx s
   have hxd:=hx x
   rw [h1] at hsd;rw [h2] at hxd
   have ht:=elemT_some h3
   split at h
   ·rename_i v e' size bytes xs hk
    split at h
    ·rename_i hc
     obtain ⟨rfl,rfl,rfl⟩:=hc
     simp at h;subst h
     obtain ⟨⟨i,z,hi,hz,hsize,hby,hzs⟩,h0,hux,huy,hmax,hbytes⟩:=hs
     have hv:=sd_own hsd (verT_row hk)
     have he:=hT.ent k
     rw [hk] at he
     obtain ⟨us,hown,hd,h1u,hnew⟩:=he
     obtain ⟨A,cap,hxv,hcap,hcm,hAn,hrow⟩:=sd_l hxd
     have hfy:=flat_uni huy
     have key: ∃v' W' vs,(execOp ρ o).run P W= .ok (.value v') W'∧W'.ownsRow 0 ee size v' (xs.length+ys.length) (us++vs)∧W.grownBy W' (ι k).ownBlock∧(v'.ownBlock=(ι k).ownBlock∨v'.ownBlock=some W.heap.size)∧
       DenL W (okT bs τ ι) (flat ys) vs∧ ∀(i:Nat) (u:Value),vs[i]? =some u→u.oneCell'=true:=by
      cases A with
      |none=>
       have hc0:=hAn rfl
       subst hc0
       have hy0:ys= [] :=List.eq_nil_of_length_eq_zero (by omega)
       subst hy0
       have hrun:=run_append_owned_none (P:=P) (w:=W) 0 t o.type ee i size ht hi (ι k) xs.length us hown
       refine ⟨ι k,W, [], ?_,by simpa using hown,⟨rfl,rfl,rfl,Nat.le_refl _,fun _ _ _=>rfl⟩,.inl rfl,DenL.nil _ _,by simp⟩
       simp at hxv
       simp [execOp,ho,resolve,invoke,builtin,hv,hxv,hrun,Result.andThen]
      |some ad=>
       obtain ⟨vs,hvs,hcells,hd2,h12⟩: ∃vs:List Value,vs.length=ys.length*size∧(∀j u,vs[j]? =some u→W.cell? (ad.add j)=some u)∧DenL W (okT bs τ ι) (flat ys) vs∧ ∀(i:Nat) (u:Value),vs[i]? =some u→u.oneCell'=true:=by
        by_cases hne:flat ys= []
        ·refine ⟨[], ?_,by simp,by rw [hne];exact DenL.nil _ _,by simp⟩
         rw [←hfy,hne];rfl
        ·obtain ⟨b,off,vs,hA,_,_,hc,hd2,h12⟩:=hrow hne
         simp at hA;subst hA
         exact ⟨vs,by rw [hd2.1,hfy],fun j u hu=>by rw [add_none];exact hc j u hu,hd2,h12⟩
       obtain ⟨v',W',hr,g1,g2,_,g4⟩:=run_append_own_at (P:=P) W 0 t o.type ee i z size bytes ht hi hz hsize hby hzs h0 (ι k) xs.length us hown ad ys.length cap vs hvs hcells
        (fun u hu=>by obtain ⟨j,hj⟩:=List.getElem?_of_mem hu;exact h12 j u hj) hmax hbytes (Nat.zero_le _)
       refine ⟨v',W',vs, ?_,g1,g2,g4,hd2,h12⟩
       simp [execOp,ho,resolve,invoke,builtin,hv,hxv,hr,Result.andThen]
     obtain ⟨v',W',vs,hr,g1,g2,g3,g4,g5⟩:=key
     have hkeep: ∀b,okT bs τ ι b→b<W.heap.size→W'.heap[b]? =W.heap[b]? :=fun b hb hl=>g2.block b hl fun ee'=>by
      refine hb.2 k (by rw [hk];rfl) ?_
      rw [blk_own _ _ hown, ←ee']
     have hst:=hT.rowTo hN (v2:=ver+1) (ys:=xs++ys) (bytes:=bytes) hk (by omega) (fun h=>absurd h (by omega)) g2 g3 (by simpa using g1)
      (fun ok' hok'=>by rw [flat_append];exact (hd.append g4).keep hkeep hok') (one_append h1u g5)
     refine ⟨v',W',at_ ι k v',.inl hr,hst, ?_⟩
     refine .own (seen_now ?_) fun _=>by show v'=at_ ι k v' k;rw [at_same]
     show verT (at_ τ k _) k=_;simp [verT,at_same,B.ver]
    ·simp at h
   ·simp at h
  ·simp at h
 ·simp at h
theorem op_convert(hT:TOk W old bs ι τ){src dst:TypeId}{x:Operand}(ho:o.op= .convert src dst x)(hx:SDen W ι (verT τ) (okT bs τ ι) (σ x) (ρ x))
  (h:opA P k0 mu σ τ o.type (.convert src dst x)=some e) (hs:e.side):OpOk P old bs W ι τ o ρ e.val e.upd:=by
 simp only [opA] at h
 split at h
 ·rename_i kk n h1
  split at h
  ·rename_i k hk
   simp at h;subst h
   rw [h1] at hx
   obtain ⟨d,hd⟩:=Option.isSome_iff_exists.1 hs.1
   have hdst:P.underlying dst=some (.int k):=by
    unfold intKindOf at hk;split at hk
    ·rename_i h4;simp at hk;subst hk;exact h4
    ·simp at hk
   exact OpOk.pure hT (by simp [execOp,ho,convert,underlying,hd,hdst,(sd_v hx).1,Conv.intToInt, ←wr_eq _ _ hs.2]) (.d (.v rfl))
  ·simp at h
 ·simp at h
theorem intS_some{lo:Option Operand}{d n:Int}(h:intS σ lo d=some n)(hx: ∀x,SDen W ι (verT τ) (okT bs τ ι) (σ x) (ρ x)):(lo=none∧n=d)∨ ∃x k,lo=some x∧ρ x= .int k n:=by
 cases lo with
 |none=>simp [intS] at h;exact .inl ⟨rfl,h.symm⟩
 |some x=>
  simp only [intS] at h
  split at h
  ·rename_i k m hm
   simp at h;subst h
   have:=hx x
   rw [hm] at this
   exact .inr ⟨x,k,rfl,(sd_v this).1⟩
  ·simp at h
theorem run_bounds{isSlice:Bool}{len cap:Nat}{lo hi:Option Operand}{l h:Int}(hl:intS σ lo 0=some l)(hh:intS σ hi len=some h)(hx: ∀x,SDen W ι (verT τ) (okT bs τ ι) (σ x) (ρ x))(h0:0≤l)(h1:l≤h)(h2:h≤len)(h3:len≤cap):
  (Instr.sliceBounds isSlice len cap (lo.map ρ) (hi.map ρ) none).run P W= .ok (l.toNat,h.toNat,cap) W:=by
 have hb: ∀(k:IntKind) (n:Int) (y:Nat) (code:BoundsCode),0≤n→n≤y→(Instr.sliceBound (.int k n) y code).run P W= .ok n.toNat W:=by
  intro k n y code g0 g1
  simp [Instr.sliceBound,asIntOf,g0,g1]
 unfold Instr.sliceBounds
 rcases intS_some hl hx with ⟨rfl,rfl⟩|⟨x,k,rfl,hxv⟩<;>rcases intS_some hh hx with ⟨rfl,rfl⟩|⟨y,k',rfl,hyv⟩
 ·simp
 ·simp [hyv,hb k' h cap _ (by omega) (by omega)]
 ·simp [hxv,hb k l len _ (by omega) (by omega)]
 ·have e:((h.toNat:Nat):Int)=h:=Int.toNat_of_nonneg (by omega)
  simp [hxv,hyv,hb k' h cap _ (by omega) (by omega),hb k l h.toNat _ (by omega) (by omega)]
theorem op_slice(hT:TOk W old bs ι τ){xt:TypeId}{x:Operand}{lo hi:Option Operand}(ho:o.op= .slice xt x lo hi none)(hx: ∀x,SDen W ι (verT τ) (okT bs τ ι) (σ x) (ρ x))
  (h:opA P k0 mu σ τ o.type (.slice xt x lo hi none)=some e) (hs:e.side):OpOk P old bs W ι τ o ρ e.val e.upd:=by
 have hxx:=hx x
 simp only [opA] at h
 split at h
 ·rename_i s h1
  split at h
  ·rename_i l hh hl hhh
   simp at h;subst h
   obtain ⟨g0,g1,g2,ht⟩:=hs
   rw [h1] at hxx
   have hv:=(sd_v hxx).1
   have hb:=run_bounds (P:=P) (isSlice:=false) (cap:=s.size) hl hhh hx g0 g1 g2 (Nat.le_refl _)
   exact OpOk.pure hT (by simp [execOp,ho,Instr.sliceAt,Instr.slice,underlying,ht,hv,hb]) (.d (.v rfl))
  ·simp at h
 ·rename_i xs h1
  split at h
  ·rename_i l hh ee hl hhh hee
   simp at h;subst h
   obtain ⟨g0,g1,g2,hu,hpos⟩:=hs
   rw [h1] at hxx
   obtain ⟨A,cap,hv,hcap,hcm,hAn,hrow⟩:=sd_l hxx
   have ht:=elemT_some hee
   have hb:=run_bounds (P:=P) (isSlice:=true) (cap:=cap) hl hhh hx g0 g1 g2 hcap
   have hr:(execOp ρ o).run P W= .ok (.value (.slice (if cap=l.toNat then A else A.map (·.add (l.toNat*P.cellsOf ee))) (hh.toNat-l.toNat) (cap-l.toNat))) W:=by
    simp [execOp,ho,Instr.sliceAt,Instr.slice,underlying,ht,hv,hb,run_sizeOf_ne (Nat.ne_of_gt hpos)]
   refine OpOk.pure hT hr ?_
   simp only [subL]
   have hlen:((xs.take hh.toNat).drop l.toNat).length=hh.toNat-l.toNat:=by simp;omega
   by_cases hz:hh.toNat-l.toNat=0
   ·have e0:(xs.take hh.toNat).drop l.toNat= [] :=List.eq_nil_of_length_eq_zero (by omega)
    rw [e0,hz]
    refine .d (.l0 (by omega) fun hn=> ?_)
    split at hn
    ·omega
    ·have:=hAn (by simpa using hn);omega
   ·rw [←hlen]
    have hne:flat xs≠ [] :=by
     intro hn
     have h2:=flat_uni hu
     rw [hn] at h2
     have:0<xs.length*P.cellsOf ee:=Nat.mul_pos (by omega) hpos
     simp at h2;omega
    obtain ⟨b,off,us,rfl,hne',hok,hc,hd,h1'⟩:=hrow hne
    rw [if_neg (by omega)]
    simp only [Option.map_some,add_none]
    have hut:Uni (P.cellsOf ee) (xs.take hh.toNat):=fun y hy=>hu y (List.mem_of_mem_take hy)
    have e1:flat ((xs.take hh.toNat).drop l.toNat)=((flat xs).take (hh.toNat*P.cellsOf ee)).drop (l.toNat*P.cellsOf ee):=by rw [flat_drop hut,flat_take hu]
    have e2:=(hd.take (hh.toNat*P.cellsOf ee)).drop (l.toNat*P.cellsOf ee)
    rw [←e1] at e2
    have hfl:=flat_uni (size:=P.cellsOf ee) (xs:=(xs.take hh.toNat).drop l.toNat) (fun y hy=>hut y (List.mem_of_mem_drop hy))
    refine .d (.l ?_ e2.1 hok ?_ e2.2 ?_ (by omega) (by omega))
    ·intro hn
     have:=e2.1
     rw [hn,hfl,hlen] at this
     have:0<(hh.toNat-l.toNat)*P.cellsOf ee:=Nat.mul_pos (by omega) hpos
     simp at*;omega
    ·intro i u hu'
     rw [List.getElem?_drop,List.getElem?_take] at hu'
     split at hu'
     ·have:=hc _ _ hu'
      rwa [show off+(l.toNat*P.cellsOf ee+i)=off+l.toNat*P.cellsOf ee+i from by omega] at this
     ·simp at hu'
    ·exact one_sub h1' fun u hu'=>List.mem_of_mem_take (List.mem_of_mem_drop hu')
  ·simp at h
 ·simp at h
end
end Go.Nv
end
section
namespace Go.Nv
open Go.RowKit
section
variable {P:Program} {old bs:Nat→Prop} {W:World} {ι:Nat→Value} {τ:Nat→B} {ρ:Operand→Value} {σ:Operand→S} {o:Oper} {k0:Nat} {mu:Bool} {e:Eff}
theorem den_flat{ok:Nat→Prop}{ds:List D}: ∀{us:List Value},DenL W ok ds us→DenL W ok (flat ds) (us.flatMap fun v=>v.cells.toList)∧(∀(i:Nat) (u:Value),(us.flatMap fun v=>v.cells.toList)[i]? =some u→u.oneCell'=true)∧
  ∀{size:Nat},Uni size ds→ ∀v∈us,v.cells.size=size:=by
 induction ds with
 |nil=>intro us h;rw [h.nil_inv];exact ⟨DenL.nil _ _,by simp,by simp⟩
 |cons d ds ih=>
  intro us h
  obtain ⟨u,us',rfl,h1,h2⟩:=h.cons_inv
  obtain ⟨g1,g2,g3⟩:=ih h2
  obtain ⟨c1,c2⟩:=h1.cellsL
  refine ⟨?_, ?_, ?_⟩
  ·have:=c1.append g1
   simpa [flat] using this
  ·rw [List.flatMap_cons]
   exact one_append (fun i u hu=>c2 u (List.mem_of_getElem? hu)) g2
  ·intro size hu v hv
   rcases List.mem_cons.1 hv with rfl|hv
   ·have h3:=hu d (List.mem_cons_self ..)
    have:=c1.1
    rw [h3] at this
    simpa using this
   ·exact g3 (fun y hy=>hu y (List.mem_cons_of_mem _ hy)) v hv
theorem zip_parts{parts:List (Nat×Operand)}{n:Nat}(h:parts.map (·.1)=List.range n)(ρ:Operand→Value):
  parts.map (fun x=>(x.1,ρ x.2))=((parts.map fun x=>ρ x.2).zipIdx 0).map fun x=>(x.2,x.1):=by
 apply List.ext_getElem?
 intro i
 have hi:(parts.map (·.1))[i]? =(List.range n)[i]? :=by rw [h]
 rw [List.getElem?_map] at hi
 simp only [List.getElem?_map,List.getElem?_zipIdx]
 cases hp:parts[i]? with
 |none=>simp
 |some p=>
  rw [hp] at hi
  simp at hi
  have:i<n∧i=p.1:=by
   rcases Nat.lt_or_ge i n with hlt|hge
   ·rw [List.getElem?_range hlt] at hi;simp at hi;exact ⟨hlt,hi.symm⟩
   ·rw [List.getElem?_eq_none (by simpa using hge)] at hi;simp at hi
  simp [this.2]
theorem foldl_put(off:Nat): ∀(vs:List Value) (k:Nat) (cs:Array Value),off+k+vs.length≤cs.size→
  ((vs.zipIdx k).foldl (fun (cs:Array Value) (x:Value×Nat)=>cs.setIfInBounds (off+x.2) x.1) cs).toList=cs.toList.take (off+k)++vs++cs.toList.drop (off+k+vs.length)
 | [],k,cs,h=>by simp
 |v::vs,k,cs,h=>by
  simp only [List.length_cons] at h
  rw [List.zipIdx_cons,List.foldl_cons,foldl_put off vs (k+1) _ (by simp;omega)]
  have hlt:off+k<cs.toList.length:=by simp;omega
  simp only [Array.toList_setIfInBounds]
  rw [show off+(k+1)=off+k+1 from by omega,show off+k+(v::vs).length=off+k+1+vs.length from by simp;omega]
  rw [List.take_set,List.drop_set_of_lt (by omega),List.take_succ_eq_append_getElem hlt]
  have e:(cs.toList.take (off+k)).length=off+k:=by simp;simp at hlt;omega
  have e2:(cs.toList.take (off+k)++ [cs.toList[off+k]]).set (off+k) v=cs.toList.take (off+k)++ [v] :=by
   rw [List.set_append_right _ _ (by rw [e];exact Nat.le_refl _),e,Nat.sub_self];rfl
  rw [e2]
  simp
theorem fill_sound(hT:TOk W old bs ι τ){pl:List (Nat×Nat)}{place:Nat→Option (Nat×Nat)}(hp: ∀(i:Nat) (p:Nat×Nat),pl[i]? =some p→place i=some p)(hx: ∀x,SDen W ι (verT τ) (okT bs τ ι) (σ x) (ρ x)):
  ∀(ps:List (Nat×Operand)) (cs cs':List S) (us:Array Value),(ps.all fun x=>okS (verT τ) (σ x.2))=true→buildS pl (ps.map fun x=>(x.1,σ x.2)) cs=some cs'→
   SDenL W ι (verT τ) (okT bs τ ι) cs us.toList→(∀u∈us.toList,u.oneCell'=true)→
   ∃us',Instr.fill place us (ps.map fun x=>(x.1,ρ x.2))=some us'∧SDenL W ι (verT τ) (okT bs τ ι) cs' us'.toList∧(∀u∈us'.toList,u.oneCell'=true)
 | [],cs,cs',us,_,hb,hd,h1=>by simp [buildS] at hb;subst hb;exact ⟨us,by simp [Instr.fill],hd,h1⟩
 |(i,x)::ps,cs,cs',us,hok,hb,hd,h1=>by
  simp only [List.all_cons,Bool.and_eq_true] at hok
  simp only [List.map_cons,buildS] at hb
  split at hb
  ·rename_i o n hpl
   split at hb
   ·rename_i hc
    obtain ⟨g1,g2⟩:=(hx x).cellsS hok.1 hT
    have hlen:(ρ x).cells.size=(σ x).cells.length:=by have:=g1.1;simpa using this
    have hus:us.size=cs.length:=by have:=hd.1;simpa using this
    have hf:=foldl_put o (ρ x).cells.toList 0 us (by simp;omega)
    have hres:SDenL W ι (verT τ) (okT bs τ ι) (splice cs o (σ x).cells) (us.toList.take o++(ρ x).cells.toList++us.toList.drop (o+(ρ x).cells.size)):=by
     rw [hlen];exact ((hd.take o).append g1).append (hd.drop _)
    have hone: ∀u∈us.toList.take o++(ρ x).cells.toList++us.toList.drop (o+(ρ x).cells.size),u.oneCell'=true:=by
     intro u hu
     simp only [List.mem_append] at hu
     rcases hu with (hu|hu)|hu
     ·exact h1 u (List.mem_of_mem_take hu)
     ·exact g2 u hu
     ·exact h1 u (List.mem_of_mem_drop hu)
    have e:((ρ x).cells.zipIdx.foldl (fun (cs:Array Value) (x:Value×Nat)=>cs.setIfInBounds (o+x.2) x.1) us).toList=us.toList.take o++(ρ x).cells.toList++us.toList.drop (o+(ρ x).cells.size):=by
     rw [←Array.foldl_toList,Array.toList_zipIdx];simpa using hf
    obtain ⟨us',f1,f2,f3⟩:=fill_sound hT hp hx ps _ cs' ((ρ x).cells.zipIdx.foldl (fun (cs:Array Value) (x:Value×Nat)=>cs.setIfInBounds (o+x.2) x.1) us) hok.2 hb (by rw [e];exact hres) (by rw [e];exact hone)
    refine ⟨us', ?_,f2,f3⟩
    rw [List.map_cons,Instr.fill,hp _ _ hpl]
    simp only
    rw [if_neg (by simp;omega)]
    exact f1
   ·simp at hb
  ·simp at hb
theorem op_build(hT:TOk W old bs ι τ){t:TypeId}{parts:Array (Nat×Operand)}(ho:o.op= .build t parts)(hx: ∀x,SDen W ι (verT τ) (okT bs τ ι) (σ x) (ρ x))
  (h:opA P k0 mu σ τ o.type (.build t parts)=some e) (hs:e.side):OpOk P old bs W ι τ o ρ e.val e.upd:=by
 simp only [opA] at h
 split at h
 ·rename_i pl zs hpl hzs
  obtain ⟨cs,hb,rfl⟩: ∃cs,buildS pl (parts.toList.map fun x=>(x.1,σ x.2)) (zs.map .d)=some cs∧({val:=aggS cs,side:=(parts.toList.all fun x=>okS (verT τ) (σ x.2))=true}:Eff)=e:=Option.map_eq_some_iff.1 h
  unfold zeroCells at hzs
  split at hzs
  ·rename_i z hzz
   obtain ⟨it,hit,hz1⟩: ∃i,P.info? t=some i∧i.zero=some z:=by simpa [Option.bind_eq_some_iff] using hzz
   obtain ⟨h1,h2⟩:=mapM_toDn (W:=W) hzs (okT bs τ ι)
   have key: ∃us',P.built t (parts.toList.map fun x=>(x.1,ρ x.2))=some us'∧SDenL W ι (verT τ) (okT bs τ ι) cs us'.toList∧(∀u∈us'.toList,u.oneCell'=true):=by
    unfold plcs at hpl
    unfold Program.built
    rw [hit] at hpl ⊢
    cases hu:P.underlying t with
    |none=>rw [hu] at hpl;simp at hpl
    |some d=>
     rw [hu] at hpl
     cases d<;>try (simp at hpl;done)
     case array n ee=>
      simp only [hz1] at hpl ⊢
      cases hie:P.info? ee with
      |none=>rw [hie] at hpl;simp at hpl
      |some ie=>
       rw [hie] at hpl
       simp at hpl;subst hpl
       refine fill_sound hT ?_ hx parts.toList _ cs z.cells hs hb (SDenL.ofDen h1) h2
       intro i p hi
       rw [List.getElem?_map] at hi
       cases hr:(List.range n)[i]? with
       |none=>simp [hr] at hi
       |some j=>
        have:j=i:=by
         rw [List.getElem?_eq_some_iff] at hr
         obtain ⟨hl,hr⟩:=hr
         simpa using hr.symm
        subst this
        simp [hr] at hi;exact congrArg some hi
     case struct fields=>
      simp only [hz1] at hpl ⊢
      cases hm:fields.toList.mapM (fun f=>(P.info? f.type).map fun i=>(f.offset,i.size)) with
      |none=>rw [hm] at hpl;simp at hpl
      |some places=>
       rw [hm] at hpl
       simp at hpl;subst hpl
       exact fill_sound hT (fun i p hi=>by simpa using hi) hx parts.toList _ cs z.cells hs hb (SDenL.ofDen h1) h2
   obtain ⟨us',k1,k2,k3⟩:=key
   refine OpOk.pure hT (v:= .agg us') ?_ ?_
   ·have hrun:=run_build W t (parts.map fun (i,x)=>(i,ρ x)) us' (by simpa using k1)
    simp [execOp,ho,hrun]
   ·have:=SDen.ofAgg k2 fun i u hu=>k3 u (List.mem_of_getElem? hu)
    simpa using this
  ·simp at hzs
 ·simp at h
theorem op_max(hT:TOk W old bs ι τ){args:Array Operand}{ts:Array TypeId}(ho:o.op= .call {callee:= .builtin .max,args:=args,argTypes:=ts})(hx: ∀x,SDen W ι (verT τ) (okT bs τ ι) (σ x) (ρ x))
  (h:opA P k0 mu σ τ o.type (.call {callee:= .builtin .max,args:=args,argTypes:=ts})=some e) (hs:e.side):OpOk P old bs W ι τ o ρ e.val e.upd:=by
 simp only [opA] at h
 split at h
 ·rename_i x y hargs
  split at h
  ·rename_i k a k' b ha hb
   simp at h;subst h
   obtain rfl:k=k':=hs
   have ha':=(sd_v (ha▸hx x)).1
   have hb':=(sd_v (hb▸hx y)).1
   have hg:args= #[x,y] :=by cases args;simp_all
   subst hg
   refine OpOk.pure hT (v:= .int k (if a<b then b else a)) ?_ (.d (.v rfl))
   simp [execOp,ho,resolve,invoke,ha',hb',builtin,Builtin.max_,Builtin.max2]
   try (split<;>rfl)
  ·simp at h
 ·simp at h
theorem op_buildSlice(hT:TOk W old bs ι τ)(hN:OldIn old W)(hk0:τ k0= .gone){t:TypeId}{n:Nat}{parts:Array (Nat×Operand)}(ho:o.op= .buildSlice t n parts)(hx: ∀x,SDen W ι (verT τ) (okT bs τ ι) (σ x) (ρ x))
  (h:opA P k0 mu σ τ o.type (.buildSlice t n parts)=some e) (hs:e.side):OpOk P old bs W ι τ o ρ e.val e.upd:=by
 simp only [opA] at h
 split at h
 ·rename_i ee ds h1 h2
  split at h
  ·rename_i hc
   simp at h;subst h
   obtain ⟨⟨i,z,hi,hz,hsize,hby,hzs⟩,h0,hu,hsm⟩:=hs
   have ht:=elemT_some h1
   have hsd:SDenL W ι (verT τ) (okT bs τ ι) ((parts.toList.map (·.2)).map σ) ((parts.toList.map (·.2)).map ρ):=by
    refine ⟨by simp,fun j c u hc hu=> ?_⟩
    rw [List.getElem?_map] at hc hu
    cases hq:(parts.toList.map (·.2))[j]? with
    |none=>simp [hq] at hc
    |some q=>simp [hq] at hc hu;subst hc;subst hu;exact hx q
   rw [allD_some h2] at hsd
   have hd:=hsd.inv
   have hlen:((parts.toList.map (·.2)).map ρ).length=n:=by
    have:=congrArg List.length hc
    simpa using this
   have hdl:ds.length=n:=by rw [←hd.1];exact hlen
   obtain ⟨g1,g2,g3⟩:=den_flat hd
   have g3:=g3 hu
   have hfill:=Great.fill_whole h0 ((parts.toList.map (·.2)).map ρ) ((Array.range (n*i.size)).map (z.cells[· %z.cells.size]!)) g3 (by rw [hlen,hsize];simp)
   have hrun:(Instr.buildSlice t n (parts.map fun (i,x)=>(i,ρ x))).run P W= .ok (.slice (some ⟨W.heap.size,0,none⟩) n n) (W.alloc (.cells (((parts.toList.map (·.2)).map ρ).flatMap fun v=>v.cells.toList).toArray ee)):=by
    by_cases hn:0<n
    case neg=>
     have hn0:n=0:=by omega
     subst hn0
     have hp:parts= #[] :=by
      have:parts.toList= [] :=by simpa using hc
      cases parts;simp_all
     subst hp
     simp [Instr.buildSlice,run_underlying ht,sizeOf,typeInfo,hi,newRow,Instr.fill]
     have:Array.range 0= #[] :=by simp [Array.range]
     rw [this,Array.map_empty]
    refine run_buildSlice W t ee n _ _ i z ht hi hz (by rw [hsize];omega) (by rw [hsize];have:=Nat.mul_pos hn h0;omega) ?_
    rw [hsize]
    rw [hsize] at hfill
    rw [←hfill]
    congr 1
    have:=zip_parts (parts:=parts.toList) hc ρ
    simpa [List.map_map,Function.comp_def] using this
   have hfl:=flat_uni hu
   have hne:0<n→(((parts.toList.map (·.2)).map ρ).flatMap fun v=>v.cells.toList)≠ [] :=by
    intro hn hn'
    have:=g1.1
    rw [hn',hfl,hdl] at this
    have:=Nat.mul_pos hn h0
    simp at*;omega
   have hnm:n≤maxLen:=by unfold maxLen;have:=Nat.mul_le_mul_left n h0;omega
   generalize hus:(((parts.toList.map (·.2)).map ρ).flatMap fun v=>v.cells.toList)=us at*
   have hblk:(W.alloc (.cells us.toArray ee)).heap[W.heap.size]? =some (.cells us.toArray ee (0,0)):=heap_alloc_new W _
   cases mu with
   |false=>
    have hst:=hT.quiet hN (World.grownBy_alloc W (.cells us.toArray ee) none)
    refine ⟨.slice (some ⟨W.heap.size,0,none⟩) n n,W.alloc (.cells us.toArray ee),ι,.inl (by simp [execOp,ho,hrun]),hst, ?_⟩
    ·have hok:okT bs τ ι W.heap.size:=⟨hT.bsn _ (fun ho=>absurd (hN _ ho) (by omega)),fun k hl hb=>absurd (hT.blk_new hl hb).2 (by omega)⟩
     have g1':=hst.denL g1
     by_cases hn:0<n
     ·rw [←hdl]
      exact .d (.l (hne hn) g1'.1 hok (by simp) g1'.2 g2 (Nat.le_refl _) (by omega))
     ·have hn0:n=0:=by omega
      have hd0:ds= [] :=List.eq_nil_of_length_eq_zero (by omega)
      subst hn0
      rw [hd0]
      exact .d (.l0 (by omega) (fun h=>rfl))
   |true=>
    refine ⟨.slice (some ⟨W.heap.size,0,none⟩) n n,W.alloc (.cells us.toArray ee),at_ ι k0 (.slice (some ⟨W.heap.size,0,none⟩) n n),.inl (by simp [execOp,ho,hrun]), ?_, ?_⟩
    ·refine hT.upd hN k0 _ _ (row:=none) (World.grownBy_alloc W _ none) (by simp) (by simp [blk]) (by intro c hc;rw [hk0] at hc;simp [B.ver] at hc) fun hkeep hok hv=> ?_
     refine ⟨us, ?_,g1.keep hkeep hok,g2, ?_⟩
     ·rw [at_same,hdl]
      refine ⟨by rw [g1.1,hfl,hdl],.inr ⟨W.heap.size,n,us.toArray,rfl,Nat.zero_le _,hblk,Nat.le_refl _,hnm,by simp [g1.1,hfl,hdl], ?_⟩⟩
      have:us.length=n*P.cellsOf ee:=by rw [g1.1,hfl,hdl]
      simp [←this]
     ·rw [at_same];intro b hb ho';simp [blk] at hb;subst hb;exact absurd (hN _ ho') (by omega)
    ·refine .own (seen_now ?_) fun _=>by show _=at_ ι k0 _ k0;rw [at_same]
     show verT (at_ τ k0 _) k0=_;simp [verT,at_same,B.ver]
  ·simp at h
 ·simp at h
theorem den_repl{ok:Nat→Prop}{d:D}{us:List Value}(h:DenL W ok d.cells us): ∀n:Nat,DenL W ok (flat (List.replicate n d)) (List.replicate n us).flatten
 |0=>DenL.nil _ _
 |n+1=>by
  rw [List.replicate_succ,List.replicate_succ]
  have:=h.append (den_repl h n)
  simpa [flat] using this
theorem made_eq(z:Array Value)(hz:0<z.size)(n:Nat):(madeCells z (n*z.size)).toList=(List.replicate n z.toList).flatten:=by
 have key: ∀n:Nat,(List.range (n*z.size)).map (fun i=>z[i%z.size]!)=(List.replicate n z.toList).flatten:=by
  intro n
  induction n with
  |zero=>simp
  |succ n ih=>
   rw [Nat.add_mul,Nat.one_mul,List.range_add,List.map_append,ih,List.replicate_succ',List.flatten_append,List.map_map]
   congr 1
   simp only [List.flatten_cons,List.flatten_nil,List.append_nil]
   apply List.ext_getElem?
   intro i
   rw [List.getElem?_map]
   rcases Nat.lt_or_ge i z.size with h|h
   ·rw [List.getElem?_range h]
    simp [Nat.mod_eq_of_lt h,Array.getElem?_eq_getElem h,h]
   ·rw [List.getElem?_eq_none (by simpa using h),List.getElem?_eq_none (by simpa using h)];rfl
 rw [←key n]
 simp [madeCells]
theorem op_makeSlice(hT:TOk W old bs ι τ)(hN:OldIn old W)(hk0:τ k0= .gone){t:TypeId}{l c:Operand}(ho:o.op= .makeSlice t l c)(hx: ∀x,SDen W ι (verT τ) (okT bs τ ι) (σ x) (ρ x))
  (h:opA P k0 mu σ τ o.type (.makeSlice t l c)=some e) (hs:e.side):OpOk P old bs W ι τ o ρ e.val e.upd:=by
 simp only [opA] at h
 split at h
 ·rename_i ee kl n kc m h1 h2 h3
  split at h
  ·rename_i zs hz
   simp at h;subst h
   obtain ⟨⟨i,z,hi,hzz,hsize,hby,hzs⟩,h0,hone,g0,g1,g2,g3⟩:=hs
   have ht:=elemT_some h1
   have hl:=hx l
   have hc:=hx c
   rw [h2] at hl;rw [h3] at hc
   have hl:=(sd_v hl).1
   have hc:=(sd_v hc).1
   unfold zeroCells at hz
   rw [hi] at hz
   simp only [Option.bind_some,hzz] at hz
   obtain ⟨z1,z2⟩:=mapM_toDn (W:=W) hz (okT bs τ ι)
   have hzl:zs.length=P.cellsOf ee:=by rw [←z1.1];simpa using hzs
   have hrun:=run_make (P:=P) (w:=W) t ee i z ht hi hzz kl kc n m g0 g1 (by rw [hby];exact g3) (by unfold maxLen at g2;omega)
   have hmc:(madeCells z.cells (m.toNat*i.size)).toList=(List.replicate m.toNat z.cells.toList).flatten:=by
    rw [hsize, ←hzs];exact made_eq z.cells (by omega) m.toNat
   generalize hdd:(if isAggT P ee=true then D.a zs else zs.head?.getD (.v undef))=dz
   have hdc:dz.cells=zs:=by
    rw [←hdd]
    split
    ·rfl
    ·rename_i ha
     have:=hone (by simpa using ha)
     match zs,this with
     | [x],_=>
      obtain ⟨u,us,hu,h5,_⟩:=z1.cons_inv
      have:=z2 u (by rw [hu];simp)
      exact h5.notAgg this
   have hden: ∀k:Nat,DenL W (okT bs τ ι) (flat (List.replicate k dz)) (List.replicate k z.cells.toList).flatten:=fun k=>den_repl (by rw [hdc];exact z1) k
   have h1u: ∀(i:Nat) (u:Value),(List.replicate n.toNat z.cells.toList).flatten[i]? =some u→u.oneCell'=true:=by
    intro i u hu
    have:=List.mem_of_getElem? hu
    rw [List.mem_flatten] at this
    obtain ⟨l,hl1,hl2⟩:=this
    exact z2 u (by rw [List.mem_replicate] at hl1;rw [←hl1.2];exact hl2)
   have hblk:(W.alloc (.cells (madeCells z.cells (m.toNat*i.size)) ee)).heap[W.heap.size]? =some (.cells (madeCells z.cells (m.toNat*i.size)) ee (0,0)):=heap_alloc_new W _
   have hfl: ∀k:Nat,(List.replicate k z.cells.toList).flatten.length=k*P.cellsOf ee:=by
    intro k
    rw [(hden k).1,flat_uni (size:=P.cellsOf ee) (fun y hy=>by rw [List.mem_replicate] at hy;rw [hy.2,hdc,hzl])]
    simp
   refine ⟨_,_,at_ ι k0 (.slice (some ⟨W.heap.size,0,none⟩) n.toNat m.toNat),.inl (by simp [execOp,ho,hl,hc,hrun];exact ⟨rfl,rfl⟩), ?_, ?_⟩
   ·refine hT.upd hN k0 _ _ (row:=none) (World.grownBy_alloc W _ none) (by simp) (by simp [blk]) (by intro c hc;rw [hk0] at hc;simp [B.ver] at hc) fun hkeep hok hv=> ?_
    refine ⟨(List.replicate n.toNat z.cells.toList).flatten, ?_,(hden n.toNat).keep hkeep hok,h1u, ?_⟩
    ·rw [at_same]
     have hle:n.toNat*P.cellsOf ee≤m.toNat*P.cellsOf ee:=Nat.mul_le_mul_right _ (by omega)
     refine ⟨by rw [hfl];simp,.inr ⟨W.heap.size,m.toNat,_,by simp,Nat.zero_le _,hblk,by simp;omega,by omega,by simp [size_madeCells,hsize], ?_⟩⟩
     rw [hmc]
     have e:m.toNat=n.toNat+(m.toNat-n.toNat):=by omega
     rw [e, ←List.replicate_append_replicate,List.flatten_append,List.length_replicate, ←hfl n.toNat,List.take_left]
    ·rw [at_same];intro b hb ho';simp [blk] at hb;subst hb;exact absurd (hN _ ho') (by omega)
   ·refine .own (seen_now ?_) fun _=>by show _=at_ ι k0 _ k0;rw [at_same]
    show verT (at_ τ k0 _) k0=_;simp [verT,at_same,B.ver]
  ·simp at h
 ·simp at h
end
end Go.Nv
end
section
namespace Go.Nv
open Go.RowKit
section
variable {P:Program} {old bs:Nat→Prop} {W:World} {ι:Nat→Value} {τ:Nat→B} {ρ:Operand→Value} {σ:Operand→S} {o:Oper} {k0:Nat} {mu:Bool} {e:Eff}
theorem opA_sound(hT:TOk W old bs ι τ)(hN:OldIn old W)(hk0:τ k0= .gone)(hx: ∀x,SDen W ι (verT τ) (okT bs τ ι) (σ x) (ρ x))(hcon: ∀v,ρ (.const v)=v)
  (h:opA P k0 mu σ τ o.type o.op=some e) (hs:e.side):OpOk P old bs W ι τ o ρ e.val e.upd:=by
 generalize ho:o.op=op at h
 cases op with
 |move x=>exact op_move hT ho (hx x) h
 |assign x=>exact op_assign hT hN hk0 hcon ho (hx x) h
 |pick c a b=>exact op_pick hT ho (hx c) (hx a) (hx b) h
 |alloc t=>exact op_alloc hT hN hk0 ho h
 |box t x=>exact op_box hT hN hk0 ho (hx x) h hs
 |buildSlice t n ps=>exact op_buildSlice hT hN hk0 ho hx h hs
 |build t ps=>exact op_build hT ho hx h hs
 |load t x=>exact op_load hT ho (hx x) h
 |store t x y=>exact op_store hT hN ho (hx x) (hx y) h hs
 |nilCheck x=>exact op_nilCheck hT ho (hx x) h hs
 |binOp op xt x y yt=>exact op_bin hT ho (hx x) (hx y) h hs
 |unOp op t x=>exact op_un hT ho (hx x) h
 |convert s d x=>exact op_convert hT ho (hx x) h hs
 |makeFunc f a b=>exact op_makeFunc hT ho hx h
 |makeSlice t l c=>exact op_makeSlice hT hN hk0 ho hx h hs
 |slice t x lo hi m=>cases m with
  |none=>exact op_slice hT ho hx h hs
  |some _=>simp [opA] at h
 |fieldAddr s x f=>exact op_fieldAddr hT ho (hx x) h hs
 |field s x f=>exact op_field hT ho (hx x) h
 |indexAddr t x i=>exact op_indexAddr hT ho (hx x) (hx i) h hs
 |index t x i=>exact op_index hT ho (hx x) (hx i) h hs
 |extract x i=>exact op_extract hT ho (hx x) h
 |call c=>
  obtain ⟨cal,args,ts⟩:=c
  cases cal with
  |builtin b=>
   cases b with
   |append=>exact op_append hT hN ho hx h hs
   |len=>exact op_len hT ho hx h hs
   |max=>exact op_max hT ho hx h hs
   |_=>simp [opA] at h
  |value f=>simp [opA] at h
  |invoke r m=>simp [opA] at h
 |_=>simp [opA] at h
end
end Go.Nv
end
section
namespace Go.Nv
open Go.RowKit
section
variable {P:Program} {old bs:Nat→Prop} {W:World} {ι:Nat→Value} {τ:Nat→B} {ρ:Operand→Value} {σ:Operand→S} {o:Oper} {k0:Nat} {mu:Bool} {e:Eff}
theorem frz_step(hT:TOk W old bs ι τ)(hN:OldIn old W)(k:Nat)(hk:(τ k).live=true):StepTo old bs W ι τ W ι (at_ τ k .dead):=by
 have hst:StepTo old bs W ι τ W (at_ ι k (ι k)) (at_ τ k .dead):=by
  refine hT.upd hN k .dead (ι k) (row:=none) ⟨rfl,rfl,rfl,Nat.le_refl _,fun _ _ _=>rfl⟩ (by simp) (by simp [B.live]) (fun c hc=>⟨none,rfl,by simp⟩) (fun _ _ _=>trivial)
 have hι:at_ ι k (ι k)=ι:=by funext j;unfold at_;split<;>simp_all
 rw [hι] at hst
 exact hst
theorem okT_dead(hT:TOk W old bs ι τ){k b:Nat}(hk:(τ k).live=true)(hb:blk (ι k)=some b):okT bs (at_ τ k .dead) ι b:=by
 refine ⟨hT.bsn _ (hT.blk_new hk hb).1,fun j hj hbj=> ?_⟩
 by_cases e:j=k
 ·subst e;rw [at_same] at hj;simp [B.live] at hj
 ·rw [at_ne _ _ e] at hj
  exact e (hT.apart j k b hj hk hbj hb)
theorem okT_more{k b:Nat}(hb:okT bs τ ι b):okT bs (at_ τ k .dead) ι b:=⟨hb.1,fun j hj hbj=>by
  by_cases e:j=k
  ·subst e;rw [at_same] at hj;simp [B.live] at hj
  ·rw [at_ne _ _ e] at hj;exact hb.2 j hj hbj⟩
theorem row_data(hT:TOk W old bs ι τ){k ver:Nat}{e:TypeId}{size bytes:Nat}{xs:List D}(hk:τ k= .row ver e size bytes xs)(h0:0<size):Den W (okT bs (at_ τ k .dead) ι) (.l xs) (ι k):=by
 have hlive:(τ k).live=true:=by rw [hk];rfl
 have he:=hT.ent k
 rw [hk] at he
 obtain ⟨us,ho,hd,h1,hnew⟩:=he
 rcases ho with ⟨hul,⟨hn,hz⟩|⟨g,cap,cur,hi,hb0,hh,hcap,hmax,hcs,htake⟩⟩
 ·have:xs= [] :=List.eq_nil_of_length_eq_zero hz
  subst this
  rw [hn];exact .l0 (Nat.zero_le _) (fun _=>rfl)
 ·rw [hi]
  by_cases hx:xs= []
  ·subst hx;exact .l0 hmax (by simp)
  ·have hne:us≠ [] :=by
    intro hn
    rw [hn] at hul
    have h3:0<xs.length*size:=Nat.mul_pos (List.length_pos_iff.2 hx) h0
    simp at hul;omega
   have hrow:=row_cells (e:=e) (size:=size) (n:=xs.length) (v:=ι k) (us:=us) ⟨hul,.inr ⟨g,cap,cur,hi,hb0,hh,hcap,hmax,hcs,htake⟩⟩ (b:=g) (by rw [hi];rfl)
   have hd':=hd.keep (W':=W) (ok':=okT bs (at_ τ k .dead) ι) (fun _ _ _=>rfl) (fun b hb _=>okT_more hb)
   exact .l hne hd'.1 (okT_dead hT hlive (by rw [hi];rfl)) hrow hd'.2 h1 hcap hmax
theorem row_ref(hT:TOk W old bs ι τ){k ver:Nat}{e:TypeId}{size bytes:Nat}{xs:List D}(hk:τ k= .row ver e size bytes xs): ∃us,(ι k= .slice none 0 0∧xs= [] ∧us= [])∨ ∃g cap,ι k= .slice (some ⟨g,0,none⟩) xs.length cap∧xs.length≤cap∧cap≤maxLen∧Cells W g 0 us∧DenL W (okT bs τ ι) (flat xs) us∧us.length=xs.length*size:=by
 have he:=hT.ent k
 rw [hk] at he
 obtain ⟨us,ho,hd,h1,hnew⟩:=he
 refine ⟨us, ?_⟩
 rcases ho with ⟨hul,⟨hn,hz⟩|⟨g,cap,cur,hi,hb0,hh,hcap,hmax,hcs,htake⟩⟩
 ·have h2:xs= [] :=List.eq_nil_of_length_eq_zero hz
  left
  refine ⟨hn,h2, ?_⟩
  rw [hz] at hul;simpa using hul
 ·right
  have hrow:=row_cells (e:=e) (size:=size) (n:=xs.length) (v:=ι k) (us:=us) ⟨hul,.inr ⟨g,cap,cur,hi,hb0,hh,hcap,hmax,hcs,htake⟩⟩ (b:=g) (by rw [hi];rfl)
  exact ⟨g,cap,hi,hcap,hmax,hrow,hd,hul⟩
theorem flat_v{xs:List D}(h:AllU8 xs):flat xs=xs:=by
 induction xs with
 |nil=>rfl
 |cons x xs ih=>
  obtain ⟨n,rfl⟩:=h x (by simp)
  have:=ih fun y hy=>h y (by simp [hy])
  simp only [flat,List.flatMap_cons] at this ⊢
  rw [this];rfl
theorem u8_vals{ok:Nat→Prop}{xs:List D}{us:List Value}(h:AllU8 xs)(hd:DenL W ok xs us): ∃ns:List Int,us=ns.map (Value.int .u8)∧bytS xs=ns.foldl (fun r n=>r.push (UInt8.ofNat n.toNat)) ByteArray.empty:=by
 have key: ∃ns:List Int,xs=ns.map (fun n=>D.v (.int .u8 n))∧us=ns.map (Value.int .u8):=by
  induction xs generalizing us with
  |nil=>exact ⟨[],rfl,by rw [hd.nil_inv];rfl⟩
  |cons x xs ih=>
   obtain ⟨u,us',rfl,h1,h2⟩:=hd.cons_inv
   obtain ⟨n,rfl⟩:=h x (by simp)
   obtain ⟨ns,e1,e2⟩:=ih (fun y hy=>h y (by simp [hy])) h2
   cases h1
   exact ⟨n::ns,by simp [←e1],by simp [←e2]⟩
 obtain ⟨ns,rfl,rfl⟩:=key
 refine ⟨ns,rfl, ?_⟩
 have: ∀(ns:List Int) (s:ByteArray),ns.foldl (fun r n=>r.push (UInt8.ofNat n.toNat)) s=⟨(s.data.toList++ns.map fun n=>UInt8.ofNat n.toNat).toArray⟩:=by
  intro ns
  induction ns with
  |nil=>intro s;rcases s with ⟨⟨l⟩⟩;simp
  |cons n ns ih=>
   intro s
   rw [List.foldl_cons,ih]
   rcases s with ⟨⟨l⟩⟩
   simp [ByteArray.push]
 rw [this]
 simp only [bytS,List.map_map]
 congr 2
theorem run_bytes{b off:Nat}{xs:List D}{us:List Value}{cap:Nat}{ok:Nat→Prop}(h:AllU8 xs)(hd:DenL W ok xs us)(hc:Cells W b off us)(hl:us.length=xs.length):
  (Conv.bytesToString (.slice (some ⟨b,off,none⟩) xs.length cap)).run P W= .ok (.string (bytS xs)) W:=by
 obtain ⟨ns,rfl,e⟩:=u8_vals h hd
 rw [e]
 have h2:xs.length=(ns.map (Value.int .u8)).length:=hl.symm
 rw [h2]
 refine run_bytesToString W _ _ cap ns ?_
 refine run_loadCells_list (w:=W) _ _ fun j v hj=> ?_
 rw [add_none]
 exact hc j v hj
theorem op_convS(hT:TOk W old bs ι τ){src dst:TypeId}{x:Operand}(ho:o.op= .convert src dst x)(hx:SDen W ι (verT τ) (okT bs τ ι) (σ x) (ρ x))
  (h:opE P σ τ (.convert src dst x)=some e) (hs:e.side):OpOk P old bs W ι τ o ρ e.val e.upd:=by
 have run0: ∀{a:Option Addr} {l c:Nat},BytesT P src→P.underlying dst=some .string→ρ x= .slice a l c→(execOp ρ o).run P W=((Conv.bytesToString (.slice a l c)).run P W).andThen fun v w=> .ok (.value v) w:=by
  intro a l c ⟨ee,h1,h2⟩ h3 hv
  simp only [execOp,ho,hv]
  simp only [Sem.run_bind,run_convert_bytes_string W src dst ee a l c h1 h2 h3]
  cases (Conv.bytesToString (.slice a l c)).run P W<;>rfl
 have run1: ∀{xs:List D} {a:Option Addr} {l c:Nat},BytesT P src→P.underlying dst=some .string→ρ x= .slice a l c→(Conv.bytesToString (.slice a l c)).run P W= .ok (.string (bytS xs)) W→OpOk P old bs W ι τ o ρ (.d (.v (.string (bytS xs)))) none:=by
  intro xs a l c h1 h2 hv hr
  refine OpOk.pure hT (v:= .string (bytS xs)) ?_ (.d (.v rfl))
  rw [run0 h1 h2 hv,hr];rfl
 have emp: ∀{a:Option Addr} {c:Nat},(Conv.bytesToString (.slice a 0 c)).run P W= .ok (.string (bytS [])) W:=by
  intro a c
  cases a with
  |none=>simp [Conv.bytesToString,bytS];rfl
  |some a=>
   have:=run_bytesToString (P:=P) W a 0 c [] (by simp [loadCells,loadCellsFrom])
   rw [this];rfl
 simp only [opE] at h
 split at h
 ·rename_i xs h1
  simp at h;subst h
  obtain ⟨hb,hd2,h8⟩:=hs
  rw [h1] at hx
  obtain ⟨A,cap,hv,hcap,hcm,hAn,hrow⟩:=sd_l hx
  refine run1 hb hd2 hv ?_
  by_cases hx0:xs= []
  ·subst hx0;exact emp
  ·obtain ⟨b,off,us,rfl,hne,hok,hc,hd,h1'⟩:=hrow (by rw [flat_v h8];exact hx0)
   rw [flat_v h8] at hd
   exact run_bytes h8 hd hc hd.1
 ·rename_i k ver h1
  split at h
  ·rename_i v et size bytes xs hk
   simp at h;subst h
   obtain ⟨rfl,rfl,hb,hd2,h8⟩:=hs
   rw [h1] at hx
   have hv:=sd_own hx (verT_row hk)
   obtain ⟨us,⟨hi,rfl,rfl⟩|⟨g,cap,hi,hcap,hmax,hc,hd,hl⟩⟩:=row_ref hT hk
   ·rw [hi] at hv;exact run1 hb hd2 hv emp
   ·rw [hi] at hv
    refine run1 hb hd2 hv ?_
    rw [flat_v h8] at hd
    exact run_bytes h8 hd hc hd.1
  ·simp at h
 ·simp at h
theorem arrT_some{t:TypeId}{n:Nat}{e:TypeId}(h:arrT P t=some (n,e)):P.underlying t=some (.array n e):=by
 unfold arrT at h
 split at h
 ·rename_i a b hu;simp at h;obtain ⟨rfl,rfl⟩:=h;exact hu
 ·simp at h
theorem op_idxA(hT:TOk W old bs ι τ){xt:TypeId}{x i:Operand}(ho:o.op= .indexAddr xt x i)(hx:SDen W ι (verT τ) (okT bs τ ι) (σ x) (ρ x))(hi:SDen W ι (verT τ) (okT bs τ ι) (σ i) (ρ i))
  (h:opE P σ τ (.indexAddr xt x i)=some e) (hs:e.side):OpOk P old bs W ι τ o ρ e.val e.upd:=by
 have run0: ∀{len:Nat} {ee:TypeId} {kk:IntKind} {n:Int} {b off:Nat},arrT P xt=some (len,ee)→ρ i= .int kk n→ρ x= .pointer (some ⟨b,off,none⟩)→0≤n→n<len→P.cellsOf ee≠0→
   (execOp ρ o).run P W= .ok (.value (.pointer (some ⟨b,off+n.toNat*P.cellsOf ee,none⟩))) W:=by
  intro len ee kk n b off h1 h2 h3 g0 g1 hne
  simp [execOp,ho,Instr.indexAt,underlying,arrT_some h1,asIntOf,h2,h3,Instr.sureAddr,g0,g1,run_sizeOf_ne hne,add_none]
 simp only [opE] at h
 split at h
 ·rename_i len ee kk n h1 h2
  rw [h2] at hi
  split at h
  ·rename_i k ver off h3
   simp at h;subst h
   obtain ⟨g0,g1,hne,hv⟩:=hs
   rw [h3] at hx
   obtain ⟨b,hb,hxv⟩:=sd_ptr hx hv
   refine OpOk.pure hT (run0 h1 (sd_v hi).1 hxv g0 g1 hne) (.ptr (seen_now hv) fun _=>⟨b,hb,rfl⟩)
  ·rename_i off cs h3
   simp at h;subst h
   obtain ⟨g0,g1,hne⟩:=hs
   rw [h3] at hx
   obtain ⟨b,base,us,hxv,h4,h5,h6,h7,h8⟩:=sd_p hx
   refine OpOk.pure hT (run0 h1 (sd_v hi).1 hxv g0 g1 hne) ?_
   rw [Nat.add_assoc]
   exact .d (.p h4 h7.1 h5 h6 h7.2 h8)
  ·simp at h
 ·simp at h
theorem op_idxV(hT:TOk W old bs ι τ){xt:TypeId}{x i:Operand}(ho:o.op= .index xt x i)(hx:SDen W ι (verT τ) (okT bs τ ι) (σ x) (ρ x))(hi:SDen W ι (verT τ) (okT bs τ ι) (σ i) (ρ i))
  (h:opE P σ τ (.index xt x i)=some e) (hs:e.side):OpOk P old bs W ι τ o ρ e.val e.upd:=by
 simp only [opE] at h
 split at h
 ·rename_i len ee cs kk n h1 h2 h3
  obtain ⟨d,hp,rfl⟩: ∃d,partD P ee cs (n.toNat*P.cellsOf ee)=some d∧{val:= .d d,side:=0≤n∧n<len∧P.cellsOf ee≠0∧(P.underlying ee).isSome=true}=e:=by simpa using h
  obtain ⟨g0,g1,hne,hund⟩:=hs
  obtain ⟨dd,hdd⟩:=Option.isSome_iff_exists.1 hund
  rw [h2] at hx;rw [h3] at hi
  obtain ⟨us,hv,hd,h1'⟩:=sd_a hx
  have run0:n.toNat*P.cellsOf ee+(if isAggT P ee then P.cellsOf ee else 1)≤us.length→(execOp ρ o).run P W= .ok (.value (if isAggT P ee then .agg ((us.drop (n.toNat*P.cellsOf ee)).take (P.cellsOf ee)).toArray else us.getD (n.toNat*P.cellsOf ee) undef)) W:=fun hl=>by
   simp [execOp,ho,Instr.index,underlying,arrT_some h1,asIntOf,(sd_v hi).1,hv,g0,g1,run_sizeOf_ne hne,run_part hdd us _ hl]
  rcases partD_some hp with ⟨ha,hl,rfl⟩|⟨ha,hg⟩
  ·refine OpOk.pure hT (run0 (by rw [if_pos ha,hd.1];exact hl)) ?_
   rw [if_pos ha]
   have:=(hd.drop (n.toNat*P.cellsOf ee)).take (P.cellsOf ee)
   exact .d (Den.a this.1 this.2 (sub_one h1' _ _))
  ·obtain ⟨u,hu,hdu⟩:=hd.at hg
   have hlt:n.toNat*P.cellsOf ee<us.length:=(List.getElem?_eq_some_iff.1 hu).1
   refine OpOk.pure hT (run0 (by simp [ha];omega)) ?_
   simp only [ha]
   simpa [List.getD,hu] using SDen.d hdu
 ·simp at h
theorem flat_one{ds:List D}(h: ∀x∈ds,x.cells= [x]):flat ds=ds∧Uni 1 ds:=by
 refine ⟨?_,fun x hx=>by rw [h x hx];rfl⟩
 induction ds with
 |nil=>rfl
 |cons x ds ih=>
  have:=ih fun y hy=>h y (by simp [hy])
  simp only [flat,List.flatMap_cons] at this ⊢
  rw [this,h x (by simp)];rfl
theorem uni_one{ds:List D}(h:Uni 1 ds)(n m:Nat):flat (subL ds n m)=subL (flat ds) n m:=by
 have h2:Uni 1 (ds.take m):=fun y hy=>h y (List.mem_of_mem_take hy)
 unfold subL
 rw [flat_drop h2,flat_take h,Nat.mul_one,Nat.mul_one]
theorem op_sliceE(hT:TOk W old bs ι τ)(hN:OldIn old W){xt:TypeId}{x:Operand}{lo hi:Option Operand}(ho:o.op= .slice xt x lo hi none)(hx: ∀x,SDen W ι (verT τ) (okT bs τ ι) (σ x) (ρ x))
  (h:opE P σ τ (.slice xt x lo hi none)=some e) (hs:e.side):OpOk P old bs W ι τ o ρ e.val e.upd:=by
 have hxx:=hx x
 simp only [opE] at h
 split at h
 ·rename_i k ver h1
  split at h
  ·rename_i bt cs len ee hk harr
   split at h
   ·rename_i ds l hh hds hl hhh
    simp at h;subst h
    obtain ⟨rfl,g0,g1,g2,hlen,hc1,hu1,hpos,hmax⟩:=hs
    rw [h1] at hxx
    have hlive:(τ k).live=true:=by rw [hk];rfl
    obtain ⟨b,hb,hxv⟩:=sd_ptr hxx (by simp [verT,hk,B.ver])
    have he:=hT.ent k
    rw [hk] at he
    obtain ⟨b',us,hi',hnew,hheap,hden,hone⟩:=he
    have hbb:b=b':=by rw [hi'] at hb;simpa [blk] using hb.symm
    subst hbb
    have hbd:=run_bounds (P:=P) (isSlice:=false) (len:=len) (cap:=len) hl hhh hx g0 g1 g2 (Nat.le_refl _)
    have hr:(execOp ρ o).run P W= .ok (.value (.slice (some (if len=l.toNat then ⟨b,0,none⟩ else ⟨b,l.toNat,none⟩)) (hh.toNat-l.toNat) (len-l.toNat))) W:=by
     simp [execOp,ho,Instr.sliceAt,underlying,arrT_some harr,hxv,Instr.sureAddr,hbd,run_sizeOf_ne (show P.cellsOf ee≠0 by omega),hc1,add_none]
    have hst:=frz_step hT hN k hlive
    refine ⟨_,W,ι,.inl hr,hst, ?_⟩
    have hcs:=allD_some hds
    subst hcs
    have hdl:=hden.inv
    have hul:us.length=len:=by rw [hdl.1];exact hlen
    have hcells:Cells W b 0 us:=by
     intro i u hu
     rw [Nat.zero_add]
     have hlt:=World.cell?
     simp only [World.cell?,hheap]
     simpa using hu
    have hlen2:(subL ds l.toNat hh.toNat).length=hh.toNat-l.toNat:=by simp [subL];omega
    have hdl':DenL W (okT bs (at_ τ k .dead) ι) ds us:=hdl.keep (fun _ _ _=>rfl) fun b hb _=>okT_more hb
    by_cases hz:hh.toNat-l.toNat=0
    ·have e0:subL ds l.toNat hh.toNat= [] :=List.eq_nil_of_length_eq_zero (by omega)
     rw [e0,hz]
     refine .d (.l0 (by omega) fun hn=> ?_)
     split at hn<;>simp at hn
    ·rw [if_neg (by omega), ←hlen2]
     obtain ⟨hflat,hu1'⟩:=flat_one hu1
     have hfl:flat (subL ds l.toNat hh.toNat)=subL (flat ds) l.toNat hh.toNat:=uni_one hu1' _ _
     rw [show (subL ds l.toNat hh.toNat).length=(subL ds l.toNat hh.toNat).length from rfl]
     have e2:=(hdl'.take hh.toNat).drop l.toNat
     refine .d (.l (us:=(us.take hh.toNat).drop l.toNat) ?_ ?_ (okT_dead hT hlive (by rw [hi'];rfl)) ?_ ?_ ?_ (by omega) (by omega))
     ·intro hn
      have:=congrArg List.length hn
      simp at this;omega
     ·rw [hfl,hflat];exact e2.1
     ·intro i u hu
      rw [List.getElem?_drop,List.getElem?_take] at hu
      split at hu
      ·have:=hcells _ _ hu
       rwa [Nat.zero_add] at this
      ·simp at hu
     ·rw [hfl,hflat];exact e2.2
     ·intro i u hu
      rw [List.getElem?_drop,List.getElem?_take] at hu
      split at hu
      ·exact hone _ _ hu
      ·simp at hu
   ·simp at h
  ·simp at h
 ·rename_i k ver h1
  split at h
  ·rename_i v et size bytes xs ee hk hee
   split at h
   ·rename_i l hh hl hhh
    simp at h;subst h
    obtain ⟨rfl,hsz,g0,g1,g2,hu,hpos⟩:=hs
    rw [h1] at hxx
    have hlive:(τ k).live=true:=by rw [hk];rfl
    have hv:=sd_own hxx (verT_row hk)
    have hst:=frz_step hT hN k hlive
    have hrd:=row_data hT hk hpos
    rw [←hv] at hrd
    --as the slice of data
    have hA:OpOk P old bs W ι (at_ τ k .dead) o ρ (.d (.l (subL xs l.toNat hh.toNat))) none:=by
     classical
     have hints: ∀(q:Option Operand) (d n:Int),intS σ q d=some n→intS (fun y=>if y=x then .d (.l xs) else σ y) q d=some n:=by
      intro q d n hq
      cases q with
      |none=>exact hq
      |some y=>
       simp only [intS] at hq ⊢
       by_cases hyx:y=x
       ·subst hyx;rw [h1] at hq;simp at hq
       ·rw [if_neg hyx];exact hq
     refine op_slice (k0:=0) (mu:=false) (σ:=fun y=>if y=x then .d (.l xs) else σ y) (e:={val:= .d (.l (subL xs l.toNat hh.toNat)),side:=0≤l∧l≤hh∧hh≤xs.length∧Uni (P.cellsOf ee) xs∧0<P.cellsOf ee}) hst.tok ho (fun y=> ?_) ?_ ⟨g0,g1,g2,by rw [←hsz];exact hu,by omega⟩
     ·by_cases hyx:y=x
      ·subst hyx;simp only [if_true];exact .d hrd
      ·simp only [if_neg hyx];exact hst.sden (hx y)
     ·simp only [opA,if_true,hints _ _ _ hl,hints _ _ _ hhh,hee]
    obtain ⟨v',W',ι',hrun,hst2,hsd⟩:=hA
    exact ⟨v',W',ι',hrun,hst.trans hst2,hsd⟩
   ·simp at h
  ·simp at h
 ·simp at h
theorem op_min(hT:TOk W old bs ι τ){args:Array Operand}{ts:Array TypeId}(ho:o.op= .call {callee:= .builtin .min,args:=args,argTypes:=ts})(hx: ∀x,SDen W ι (verT τ) (okT bs τ ι) (σ x) (ρ x))
  (h:opE P σ τ (.call {callee:= .builtin .min,args:=args,argTypes:=ts})=some e) (hs:e.side):OpOk P old bs W ι τ o ρ e.val e.upd:=by
 simp only [opE] at h
 split at h
 ·rename_i x y hargs
  split at h
  ·rename_i k a k' b ha hb
   simp at h;subst h
   obtain rfl:k=k':=hs
   have ha':=(sd_v (ha▸hx x)).1
   have hb':=(sd_v (hb▸hx y)).1
   have hg:args= #[x,y] :=by cases args;simp_all
   subst hg
   refine OpOk.pure hT (v:= .int k (if b<a then b else a)) ?_ (.d (.v rfl))
   simp [execOp,ho,resolve,invoke,ha',hb',builtin,Builtin.min_,Builtin.min2]
   try (split<;>rfl)
  ·simp at h
 ·simp at h
theorem opE_sound(hT:TOk W old bs ι τ)(hN:OldIn old W)(hx: ∀x,SDen W ι (verT τ) (okT bs τ ι) (σ x) (ρ x))(h:opE P σ τ o.op=some e)(hs:e.side):OpOk P old bs W ι τ o ρ e.val e.upd:=by
 generalize ho:o.op=op at h
 cases op with
 |convert s d x=>exact op_convS hT ho (hx x) h hs
 |indexAddr t x i=>exact op_idxA hT ho (hx x) (hx i) h hs
 |index t x i=>exact op_idxV hT ho (hx x) (hx i) h hs
 |slice t x lo hi m=>cases m with
  |none=>exact op_sliceE hT hN ho hx h hs
  |some _=>simp [opE] at h
 |call c=>
  obtain ⟨cal,args,ts⟩:=c
  cases cal with
  |builtin b=>
   cases b with
   |min=>exact op_min hT ho hx h hs
   |_=>simp [opE] at h
  |value f=>simp [opE] at h
  |invoke r m=>simp [opE] at h
 |_=>simp [opE] at h
theorem opS_sound(hT:TOk W old bs ι τ)(hN:OldIn old W)(hk0:τ k0= .gone)(hx: ∀x,SDen W ι (verT τ) (okT bs τ ι) (σ x) (ρ x))(hcon: ∀v,ρ (.const v)=v)
  (h:opS P k0 mu σ τ o.type o.op=some e) (hs:e.side):OpOk P old bs W ι τ o ρ e.val e.upd:=by
 rcases opS_cases h with h|h
 ·exact opA_sound hT hN hk0 hx hcon h hs
 ·exact opE_sound hT hN hx h hs
end
end Go.Nv
end
section
namespace Go.Nv
open Go.RowKit
def RetDen(w':World)(ok:Nat→Prop):List D→Value→Prop
 | [d],v=>Den w' ok d v
 |ds,v=> ∃us,v= .tuple (List.toArray us)∧DenL w' ok ds us
def HasBody(P:Program)(g:FuncId):Prop:= ∃fn,P.funcs[g]? =some fn∧fn.body.isSome=true∧(fn.name== "runtime.NumGoroutine")=false
def Fun(P:Program)(g:FuncId)(args res:List D):Prop:=HasBody P g∧
 ∀(w:World) (ok:Nat→Prop) (us:List Value),DenL w ok args us→
  Calls P g us.toArray w fun e w'=> ∃v,e= .returned v∧RetDen w' (fun b=>ok b∨w.heap.size≤b) res v∧Below w.heap.size w w'
def FunO(P:Program)(g:FuncId)(args:List D)(e:TypeId)(size:Nat)(res:List D):Prop:=HasBody P g∧
 ∀(w:World) (ok:Nat→Prop) (us:List Value),DenL w ok args us→
  Calls P g us.toArray w fun r w'=> ∃v vs,r= .returned v∧w'.ownsRow w.heap.size e size v res.length vs∧DenL w' (fun b=>(ok b∨w.heap.size≤b)∧blk v≠some b) (flat res) vs∧(∀(i:Nat) (u:Value),vs[i]? =some u→u.oneCell'=true)∧Below w.heap.size w w'
def resS:List D→S
 | [d] => .d d
 |ds=> .tup (ds.map .d)
structure St where
 env:List S
 t:List B
def tat(t:List B)(k:Nat):B:=t.getD k .gone
def tput(t:List B)(k:Nat)(b:B):List B:=if k<t.length then t.set k b else t++List.replicate (k-t.length) .gone++ [b]
theorem tat_tput(t:List B)(k:Nat)(b:B):tat (tput t k b)=at_ (tat t) k b:=by
 funext j
 unfold tat tput at_
 split
 ·rename_i h
  simp only [List.getD_eq_getElem?_getD,List.getElem?_set]
  by_cases e:j=k
  ·subst e;simp [h]
  ·rw [if_neg (fun e'=>e e'.symm),if_neg e]
 ·rename_i h
  simp only [List.getD_eq_getElem?_getD]
  by_cases e:j=k
  ·subst e
   rw [if_pos rfl,List.getElem?_append_right (by simp;omega)]
   simp
   rw [show j-(t.length+(j-t.length))=0 from by omega]
   rfl
  ·rw [if_neg e]
   rcases Nat.lt_or_ge j t.length with h1|h1
   ·rw [List.getElem?_append_left (by simp;omega),List.getElem?_append_left h1]
   ·rw [List.getElem?_eq_none (l:=t) h1]
    rcases Nat.lt_or_ge j k with h2|h2
    ·rw [List.getElem?_append_left (by simp;omega),List.getElem?_append_right h1,List.getElem?_replicate_of_lt (by omega)];rfl
    ·rw [List.getElem?_eq_none (by simp;omega)]
def tupL(t:List B):Option (Nat×B)→List B
 |none=>t
 |some (k,b)=>tput t k b
theorem tat_tupL(t:List B)(u:Option (Nat×B)):tat (tupL t u)=tupd (tat t) u:=by
 cases u with
 |none=>rfl
 |some x=>exact tat_tput t x.1 x.2
theorem tat_new(t:List B):tat t t.length= .gone:=by simp [tat]
def constD:Value→Option D
 | .agg cs=>(cs.toList.mapM toD).map .a
 |v=>toD v
def ev(env:List S):Operand→S
 | .tmp t=>env.getD t .top
 | .const v=>match constD v with|some d=> .d d|none=> .top
 | .global _=> .top
 | .func f=> .d (.f f [])
def putE(env:List S)(dst:Option Tmp)(s:S):List S:=match dst with|some d=>env.set d s|none=>env
structure Look where
 tch:List Nat
 upd:Option Nat
def S.refs:S→List Nat
 | .ptr k _ _=> [k]
 | .own k _=> [k]
 | .clo _ cs=>refsL cs
 | .tup cs=>refsL cs
 | .agg cs=>refsL cs
 |_=> []
where refsL:List S→List Nat
 | [] => []
 |c::cs=>c.refs++refsL cs
def tchOp(σ:Operand→S)(op:Op):List Nat:=
 match op with
 | .move _| .assign _| .pick .. | .extract .. | .makeFunc .. => []
 |op=>op.operands.toList.flatMap fun x=>(σ x).refs
def isCallV:Op→Bool
 | .call {callee:= .value _,.. }=>true
 |_=>false
def muOf(mu:Tmp→Bool):Option Tmp→Bool
 |some d=>mu d
 |none=>false
def vcStep(P:Program)(mu:Tmp→Bool)(o:Oper)(st:St)(K:Look→St→Prop):Prop:=
 match o.op with
 | .call {callee:= .value f,args,.. }=>
  match ev st.env f,allD (args.toList.map (ev st.env)) with
  | .d (.f g cap),some ds=>
   (∃res,Fun P g (ds++cap) res∧K ⟨[],none⟩ ⟨putE st.env o.dst (resS res),st.t⟩)∨
   (∃e size bytes res,FunO P g (ds++cap) e size res∧K ⟨[],some st.t.length⟩ ⟨putE st.env o.dst (.own st.t.length 0),tput st.t st.t.length (.row 0 e size bytes res)⟩)
  |_,_=>False
 |_=>
  match opS P st.t.length (muOf mu o.dst) (ev st.env) (tat st.t) o.type o.op with
  |some e=>e.side∧K ⟨tchOp (ev st.env) o.op,e.upd.map (·.1)⟩ ⟨putE st.env o.dst e.val,tupL st.t e.upd⟩
  |none=>False
def vcOps(P:Program)(mu:Tmp→Bool)(ops:Array Oper):List Oper→List Look→St→(List Look→St→Prop)→Prop
 | [],acc,st,K=>K acc st
 |o::rest,acc,st,K=>
  match o.guard with
  |none=>vcStep P mu o st fun l st'=>vcOps P mu ops rest (acc++ [l]) st' K
  |some (j,want)=>
   match ev st.env (match (ops[j]?).bind (·.dst) with|some d=> .tmp d|none=> .global 0) with
   | .d (.v (.bool b))=>
    (b=want→vcStep P mu o st fun l st'=>vcOps P mu ops rest (acc++ [l]) st' K)∧
    (b≠want→vcOps P mu ops rest (acc++ [⟨[],none⟩]) ⟨putE st.env o.dst (.tup []),st.t⟩ K)
   | .tup [] =>vcOps P mu ops rest (acc++ [⟨[],none⟩]) ⟨putE st.env o.dst (.tup []),st.t⟩ K
   |_=>False
inductive Ex where
 |normal
 |exit (id:Nat)
 |ret
deriving DecidableEq
def befM(ops:List Oper):List Nat:=
 ops.foldl (fun acc o=>acc++ [o.after.toList.foldl (fun s e=>if Region.binds .any e then s|||(2^e.on|||acc.getD e.on 0) else s) 0]) []
def meetB(ops:Array Oper)(x y:Oper)(lx ly:Look):Bool:=
 (x.dst.any fun d=>(y.looksAt ops).contains d||y.dst==some d)||(y.dst.any fun d=>(x.looksAt ops).contains d)||
 (lx.upd.any fun k=>ly.tch.contains k||ly.upd==some k)||(ly.upd.any fun k=>lx.tch.contains k)
def safeB(ops:Array Oper)(ls:List Look):Bool:=
 let bs:=befM ops.toList
 (List.range ops.size).all fun j=>
  match ops[j]? with
  |none=>true
  |some y=>
   (y.after.all fun e=> !Region.binds .any e||decide (e.on<j))&&
   (List.range j).all fun i=>
    match ops[i]? with
    |none=>true
    |some x=> !meetB ops x y (ls.getD i ⟨[],none⟩) (ls.getD j ⟨[],none⟩)||(bs.getD j 0).testBit i
def Safe(ops:Array Oper)(ls:List Look):Prop:=safeB ops ls=true
def loopN(body:St→(Ex→St→Prop)→Prop):Nat→St→(Ex→St→Prop)→Prop
 |0,_,_=>False
 |n+1,st,K=>body st fun
  | .normal,st'=>loopN body n st' K
  |e,st'=>K e st'
def vc(P:Program)(mu:Tmp→Bool):Code→St→(Ex→St→Prop)→Prop
 | .skip,st,K=>K .normal st
 | .region _ ops draw,st,K=>vcOps P mu ops ops.toList [] st fun ls st'=>(draw=true→Safe ops ls)∧K .normal st'
 | .seq a b,st,K=>vc P mu a st fun
  | .normal,st'=>vc P mu b st' K
  |e,st'=>K e st'
 | .cond c a b,st,K=>match ev st.env c with
  | .d (.v (.bool z))=>(z=true→vc P mu a st K)∧(z=false→vc P mu b st K)
  |_=>False
 | .block id body,st,K=>vc P mu body st fun
  | .exit i,st'=>if i=id then K .normal st' else K (.exit i) st'
  |e,st'=>K e st'
 | .loop body,st,K=> ∃n,loopN (vc P mu body) n st K
 | .exit id,st,K=>K (.exit id) st
 | .ret,st,K=>K .ret st
 |_,_,_=>False
end Go.Nv
end
section
namespace Go.Nv
open Go.RowKit
structure Gh where
 tmps:List Value
 l:Nat:=0
 fn:FuncId:=0
 D:Nat:=0
structure Ctx where
 w:World
 gs:Nat→Gh
 r:Option Nat
def DfOk(old:Nat→Prop)(W:World)(ds:List Deferred):Prop:=
 ∃Ds:List Nat,ds=Ds.map (fun D=>{target:= .collected D,args:= #[] })∧Ds.Nodup∧ ∀D∈Ds,¬old D∧W.heap[D]? =some (.deferred (some []))
def GhOk(W:World)(old:Nat→Prop)(ι:Nat→Value)(vr:Nat→Option (Option Nat))(ok:Nat→Prop)(g:Gh)(k:Nat):B→Prop
 | .ghost cs=>SDenL W ι vr ok cs g.tmps
 | .loop s pend ps asg body cs=>ι k= .func (.yield g.l) #[] #[] ∧ok g.l∧(s= .busy∨ ¬old g.l)∧W.heap[g.l]? =some (.loop {state:=s,pending:=pend,fn:=g.fn,tmps:=g.tmps.toArray,params:=ps,assign:=asg,body:=body,defers:=g.D})∧SDenL W ι vr ok cs g.tmps
 |_=>True
structure Rel (old bs:Nat→Prop) (w0:Ctx) (ι:Nat→Value) (st:St) (a:Act) (W:World):Prop where
 defers:DfOk old W a.defers
 oldIn:OldIn old W
 fr:Fr old w0.w W
 tok:TOk W old bs ι (tat st.t)
 env:SDenL W ι (verT (tat st.t)) (okT bs (tat st.t) ι) st.env a.tmps.toList
 gh: ∀k,GhOk W old ι (verT (tat st.t)) (okT bs (tat st.t) ι) (w0.gs k) k (tat st.t k)
 lap: ∀j k,(tat st.t j).isLoop=true→(tat st.t k).isLoop=true→(w0.gs j).l=(w0.gs k).l→j=k
 rnd: ∀l,w0.r=some l→bs l∧ ∃rec,W.heap[l]? =some (.loop rec)
section
variable {P:Program} {old bs:Nat→Prop} {w0:Ctx} {W W':World} {ι ι':Nat→Value} {st st':St} {a a':Act} {o:Oper} {mu:Tmp→Bool}
theorem constD_den{v:Value}{d:D}(h:constD v=some d)(ok:Nat→Prop):Den W ok d v:=by
 unfold constD at h
 split at h
 ·rename_i cs
  obtain ⟨ds,h1,rfl⟩: ∃ds,cs.toList.mapM toD=some ds∧D.a ds=d:=by simpa using h
  obtain ⟨h2,h3⟩:=mapM_toD (W:=W) h1 ok
  have:=Den.a h2.1 h2.2 fun i u hu=>h3 u (List.mem_of_getElem? hu)
  simpa using this
 ·exact (toD_den h ok).1
theorem Rel.ev(h:Rel old bs w0 ι st a W)(x:Operand):SDen W ι (verT (tat st.t)) (okT bs (tat st.t) ι) (ev st.env x) (a.eval x):=by
 cases x with
 |tmp t=>
  simp only [Nv.ev,Act.eval]
  cases hc:st.env[t]? with
  |none=>simp only [List.getD_eq_getElem?_getD,hc];exact .top
  |some c=>
   obtain ⟨u,hu,hd⟩:=h.env.at hc
   have:a.tmps.getD t undef=u:=by
    rw [Array.getElem?_toList] at hu
    simp [Array.getD_eq_getD_getElem?,hu]
   rw [this]
   simpa [List.getD_eq_getElem?_getD,hc] using hd
 |const v=>
  simp only [Nv.ev,Act.eval]
  split
  ·rename_i d hd;exact .d (constD_den hd _)
  ·exact .top
 |global g=>exact .top
 |func f=>exact .d (.f (us:= []) rfl (by simp))
theorem TOk.okNon{τ:Nat→B}(h:TOk W old bs ι τ){b:Nat}{o:Obj}(ho:W.heap[b]? =some o)(hc:isC o=false)(hb:bs b):okT bs τ ι b:=⟨hb,h.nonpriv ho hc⟩
theorem DfOk.step{τ τ':Nat→B}{ds:List Deferred}(h:DfOk old W ds)(hT:TOk W old bs ι τ)(hst:StepTo old bs W ι τ W' ι' τ'):DfOk old W' ds:=by
 obtain ⟨Ds,h1,h2,h3⟩:=h
 refine ⟨Ds,h1,h2,fun D hD=> ?_⟩
 obtain ⟨h4,h5⟩:=h3 D hD
 exact ⟨h4,(hst.keep D (hT.okNon h5 rfl (hT.bsn _ h4)) (Array.getElem?_eq_some_iff.1 h5).1).trans h5⟩
theorem GhOk.keep{ok ok':Nat→Prop}{vr vr':Nat→Option (Option Nat)}{g:Gh}{k:Nat}{e:B}(h:GhOk W old ι vr ok g k e)(hb: ∀b,ok b→b<W.heap.size→W'.heap[b]? =W.heap[b]?)(hok: ∀b,ok b→b<W.heap.size→ok' b)
  (hv:VerKeep ι ι' vr vr') (hi:e.isLoop=true→ι' k=ι k):GhOk W' old ι' vr' ok' g k e:=by
 cases e with
 |ghost cs=>exact SDenL.keep hb hok hv h
 |loop s pend ps asg body cs=>
  obtain ⟨h1,h2,h0,h3,h4⟩:=h
  have hl:=(Array.getElem?_eq_some_iff.1 h3).1
  exact ⟨(hi rfl).trans h1,hok _ h2 hl,h0,(hb _ h2 hl).trans h3,h4.keep hb hok hv⟩
 |_=>trivial
theorem gh_of_loop{e:B}(h:e.isLoop=true):e.gh=true:=by cases e<;>simp_all [B.isLoop,B.gh]
theorem GhOk.triv{ok:Nat→Prop}{vr:Nat→Option (Option Nat)}{g:Gh}{k:Nat}{e:B}(h:e.gh=false):GhOk W old ι vr ok g k e:=by cases e<;>simp_all [B.gh,GhOk]
theorem StepTo.iota{τ τ':Nat→B}(hst:StepTo old bs W ι τ W' ι' τ'){k:Nat}(hl:(τ' k).isLoop=true):ι' k=ι k:=by
 have e:=hst.gh k (gh_of_loop hl)
 have hv:verT τ k=some (some 0):=by unfold verT;rw [←e];cases h:τ' k<;>rw [h] at hl<;>simp_all [B.isLoop,B.ver]
 have hv':verT τ' k=some (some 0):=by unfold verT at*;rw [e];exact hv
 exact (hst.ver.now (seen_now hv) hv').2
theorem Rel.ghStep{τ':Nat→B}(h:Rel old bs w0 ι st a W)(hst:StepTo old bs W ι (tat st.t) W' ι' τ'): ∀k,GhOk W' old ι' (verT τ') (okT bs τ' ι') (w0.gs k) k (τ' k):=by
 intro k
 cases hg:(τ' k).gh with
 |false=>exact .triv hg
 |true=>
  have:=h.gh k
  rw [←hst.gh k hg] at this
  exact this.keep hst.keep hst.ok hst.ver fun hl=>hst.iota hl
theorem Rel.lapStep{τ':Nat→B}(h:Rel old bs w0 ι st a W)(hst:StepTo old bs W ι (tat st.t) W' ι' τ'): ∀j k,(τ' j).isLoop=true→(τ' k).isLoop=true→(w0.gs j).l=(w0.gs k).l→j=k:=
 fun j k hj hk=>h.lap j k (by rw [←hst.gh j (gh_of_loop hj)];exact hj) (by rw [←hst.gh k (gh_of_loop hk)];exact hk)
theorem Rel.rndStep{τ':Nat→B}(h:Rel old bs w0 ι st a W)(hst:StepTo old bs W ι (tat st.t) W' ι' τ'): ∀l,w0.r=some l→bs l∧ ∃rec,W'.heap[l]? =some (.loop rec):=fun l hl=>by
 obtain ⟨h1,rec,h2⟩:=h.rnd l hl
 exact ⟨h1,rec,(hst.keep l (h.tok.okNon h2 rfl h1) (Array.getElem?_eq_some_iff.1 h2).1).trans h2⟩
theorem Rel.put(h:Rel old bs w0 ι st a W){dst:Option Tmp}{s:S}{v:Value}{t:List B}(hst:StepTo old bs W ι (tat st.t) W' ι' (tat t))(hs:SDen W' ι' (verT (tat t)) (okT bs (tat t) ι') s v):
  Rel old bs w0 ι' ⟨putE st.env dst s,t⟩ (a.put dst v) W':=by
 refine ⟨?_,h.oldIn.step hst.fr.size,h.fr.trans hst.fr,hst.tok, ?_,h.ghStep hst,h.lapStep hst,h.rndStep hst⟩
 ·cases dst<;>exact h.defers.step h.tok hst
 ·have henv:=hst.sdenL h.env
  cases dst with
  |none=>exact henv
  |some d=>
   have:=henv.set hs d
   simpa [putE,Act.put] using this
def FW(r:Option Nat):Fence:={Fence.wide with round:=r}
theorem FW.calls{r:Option Nat}{n:Nat}{f:FuncId}{args:Array Value}{w:World}{R:Ending→World→Prop}(h:Calls P f args w R):CallsIn (FW r) n P f args w R:=
 (callsIn_wide (n:=n)).2 h
theorem FW.fn(r:Option Nat)(f:FuncId):(FW r).fn f:=trivial
theorem wpIn_of_opOk{r:Option Nat}{n:Nat}(h:Rel old bs w0 ι st a W){val:S}{upd:Option (Nat×B)}(ho:OpOk P old bs W ι (tat st.t) o a.eval val upd)(hnd: ∀c,o.op≠ .defer c)
  {K:Act→World→Prop} {Q:Exit→Act→World→Prop} (hK: ∀a' W' ι',StepTo old bs W ι (tat st.t) W' ι' (tat (tupL st.t upd))→Rel old bs w0 ι' ⟨putE st.env o.dst val,tupL st.t upd⟩ a' W'→K a' W'):o.wpIn (FW r) n P a W K Q:=by
 obtain ⟨v,W',ι',hr,hst,hs⟩:=ho
 refine ⟨fun f _=>FW.fn r f, ?_⟩
 rw [Oper.semAt_eq _ _ _ hnd]
 rw [←tat_tupL] at hst hs
 have hrel:Rel old bs w0 ι' ⟨putE st.env o.dst val,tupL st.t upd⟩ (a.put o.dst v) W':=h.put hst hs
 rcases hr with hr|⟨hr,rfl⟩
 ·rw [hr];exact hK _ _ _ hst hrel
 ·rw [hr];exact hK _ _ _ hst hrel
theorem opS_nodefer{k0:Nat}{m:Bool}{σ:Operand→S}{τ:Nat→B}{e:Eff}(h:opS P k0 m σ τ o.type o.op=some e): ∀c,o.op≠ .defer c:=by
 intro c hc;rw [hc] at h;simp [opS,opA,opE] at h
theorem RetDen.toS{ok ok':Nat→Prop}(hb: ∀b,ok b→b<W.heap.size→ok' b){res:List D}{v:Value}{vr:Nat→Option (Option Nat)}(h:RetDen W ok res v):SDen W ι vr ok' (resS res) v:=by
 unfold RetDen at h
 unfold resS
 split at h
 ·exact .d (h.keep (fun _ _ _=>rfl) hb)
 ·rename_i hne
  obtain ⟨us,rfl,hd⟩:=h
  have hd:=hd.keep (W':=W) (fun _ _ _=>rfl) hb
  have hs:=SDenL.ofDen (ι:=ι) (vr:=vr) hd
  split
  ·exact (hne _ rfl).elim
  ·exact .tup hs.1 hs.2
theorem wpIn_call{r:Option Nat}{n:Nat}(h:Rel old bs w0 ι st a W){f:Operand}{args:Array Operand}{ts:Array TypeId}(hop:o.op= .call {callee:= .value f,args:=args,argTypes:=ts}){g:FuncId}{cap ds:List D}
  (hf:ev st.env f= .d (.f g cap)) (hds:allD (args.toList.map (ev st.env))=some ds) {R:Ending→World→Prop}
  (hc: ∀us,DenL W (okT bs (tat st.t) ι) (ds++cap) us→Calls P g us.toArray W R) (hb:HasBody P g)
  {K:Act→World→Prop} {Q:Exit→Act→World→Prop} (hR: ∀e W',R e W'→ ∃v,e= .returned v∧K (a.put o.dst v) W'):o.wpIn (FW r) n P a W K Q:=by
 have hfv:=h.ev f
 rw [hf] at hfv
 obtain ⟨cs,hfe,hcs⟩:=sd_f hfv
 have hargs:SDenL W ι (verT (tat st.t)) (okT bs (tat st.t) ι) (args.toList.map (ev st.env)) (args.toList.map a.eval):=by
  refine ⟨by simp,fun i c u hc hu=> ?_⟩
  rw [List.getElem?_map] at hc hu
  cases hq:args.toList[i]? with
  |none=>simp [hq] at hc
  |some q=>simp [hq] at hc hu;subst hc;subst hu;exact h.ev q
 rw [allD_some hds] at hargs
 have hd:=hargs.inv
 refine ⟨fun f _=>FW.fn r f, ?_⟩
 rw [Oper.semAt_eq _ _ _ (by rw [hop];simp)]
 have hrun:(execOp a.eval o).run P W= .ok (.enter g ((args.toList.map a.eval++cs).toArray)) W:=by
  have e1:args.map a.eval=(args.toList.map a.eval).toArray:=by cases args;simp
  obtain ⟨fn,h1,h2,h3⟩:=hb
  obtain ⟨c,h2⟩:=Option.isSome_iff_exists.1 h2
  simp [execOp,hop,resolve,hfe,Deferred.ofValue,invoke,callFunc,h1,h2,h3,e1]
  simp_all
 rw [hrun]
 refine ⟨by simp [FW,Fence.wide], ?_⟩
 refine CallsIn.mono (FW.calls (hc _ (hd.append hcs))) fun e W' he=> ?_
 obtain ⟨v,rfl,hk⟩:=hR e W' he
 exact hk
theorem okT_ge(hT:TOk W old bs ι (tat st.t))(hN:OldIn old W){b:Nat}(hb:W.heap.size≤b):okT bs (tat st.t) ι b:=
 ⟨hT.bsn _ (fun ho=>absurd (hN _ ho) (by omega)),fun k hl hk=>absurd (hT.blk_new hl hk).2 (by omega)⟩
theorem vcStep_sound{r:Option Nat}{n:Nat}{Kp:Look→St→Prop}(h:Rel old bs w0 ι st a W)(hv:vcStep P mu o st Kp){K:Act→World→Prop}{Q:Exit→Act→World→Prop}
  (hK: ∀l st' a' W' ι',Kp l st'→StepTo old bs W ι (tat st.t) W' ι' (tat st'.t)→Rel old bs w0 ι' st' a' W'→K a' W'):o.wpIn (FW r) n P a W K Q:=by
 unfold vcStep at hv
 split at hv
 ·rename_i f args ts hop
  split at hv
  ·rename_i g cap ds hf hds
   rcases hv with ⟨res,hfun,hkp⟩|⟨e,size,bytes,res,hfun,hkp⟩
   ·refine wpIn_call h hop hf hds (hc:=fun us hd=>hfun.2 W _ us hd) hfun.1 ?_
    rintro e W' ⟨v,rfl,hret,hbel⟩
    refine ⟨v,rfl, ?_⟩
    have hst:=h.tok.quiet h.oldIn (grownBy_of_below hbel)
    exact hK _ _ _ _ ι hkp hst (h.put (t:=st.t) hst (hret.toS (fun b hb _=>hb.elim id (okT_ge h.tok h.oldIn))))
   ·refine wpIn_call h hop hf hds (hc:=fun us hd=>hfun.2 W _ us hd) hfun.1 ?_
    rintro e' W' ⟨v,vs,rfl,hown,hd,h1,hbel⟩
    refine ⟨v,rfl, ?_⟩
    have hbo:=blk_own _ _ hown
    have hst:StepTo old bs W ι (tat st.t) W' (at_ ι st.t.length v) (at_ (tat st.t) st.t.length (.row 0 e size bytes res)):=by
     refine h.tok.upd h.oldIn st.t.length _ _ (row:=none) (grownBy_of_below hbel) (by simp) (fun b _ hb=> .inl ?_) (by intro c hc;rw [tat_new] at hc;simp [B.ver] at hc) fun hkeep hok hv=> ?_
     ·exact (hown.lt b (by rw [←hbo];exact hb)).1
     ·refine ⟨vs, ?_, ?_,h1,fun b hb ho=> ?_⟩
      ·rw [at_same]
       exact ⟨hown.1,hown.2.imp id fun ⟨g',cap',cur,q1,q2,q3⟩=>⟨g',cap',cur,q1,Nat.zero_le _,q3⟩⟩
      ·refine hd.keep (fun _ _ _=>rfl) fun b hb _=>⟨hb.1.elim (fun h=>h.1) (fun h2=>(okT_ge h.tok h.oldIn h2).1),fun j hj hbj=> ?_⟩
       by_cases ej:j=st.t.length
       ·subst ej;rw [at_same] at hbj;exact hb.2 hbj
       ·rw [at_ne _ _ ej] at hj hbj
        rcases hb.1 with h2|h2
        ·exact h2.2 j hj hbj
        ·exact (okT_ge h.tok h.oldIn h2).2 j hj hbj
      ·rw [at_same] at hb
       have:=(hown.lt b (by rw [←hbo];exact hb)).1
       have:=h.oldIn b ho
       omega
    refine hK _ _ _ _ (at_ ι st.t.length v) hkp (by rw [tat_tput];exact hst) (h.put (t:=tput st.t st.t.length _) (by rw [tat_tput];exact hst) ?_)
    rw [tat_tput]
    exact .own (seen_now (by simp [verT,at_same,B.ver])) fun _=>by rw [at_same]
  ·exact hv.elim
 ·split at hv
  ·rename_i e he
   exact wpIn_of_opOk h (opS_sound h.tok h.oldIn (tat_new _) h.ev (fun v=>rfl) he hv.1) (opS_nodefer he) fun a' W' ι' hst hrel=>hK _ _ _ _ ι' hv.2 hst hrel
  ·exact hv.elim
theorem sd_und(W:World)(ι:Nat→Value)(vr:Nat→Option (Option Nat))(ok:Nat→Prop):SDen W ι vr ok (.tup []) undef:= .tup (us:= []) rfl (by simp)
theorem und_sd{W:World}{ι:Nat→Value}{vr:Nat→Option (Option Nat)}{ok:Nat→Prop}{v:Value}(h:SDen W ι vr ok (.tup []) v):v=undef:=by
 obtain ⟨us,rfl,hs⟩:=sd_tup h
 rw [hs.nil_inv];rfl
theorem yielded_und{ops:Array Oper}{a:Act}{j d:Nat}(hd:(ops[j]?).bind (·.dst)=some d)(h:a.eval (.tmp d)=undef):yielded ops a.tmps j=none:=by
 unfold yielded
 rw [hd]
 simp only [Option.bind_some]
 have:a.tmps.getD d undef=undef:=h
 cases hq:a.tmps[d]? with
 |none=>rfl
 |some q=>rw [Array.getD_eq_getD_getElem?,hq] at this;simp at this;rw [this];rfl
theorem vcOps_sound{r:Option Nat}{n:Nat}{ops:Array Oper}{Q:Exit→Act→World→Prop}{Kp:List Look→St→Prop}(hK: ∀acc st' a' W' ι',Kp acc st'→Rel old bs w0 ι' st' a' W'→Q .normal a' W'):
  ∀(l:List Oper) (i:Nat) (acc:List Look) (st:St) (a:Act) (W:World) (ι:Nat→Value),ops.toList.drop i=l→vcOps P mu ops l acc st Kp→Rel old bs w0 ι st a W→wpOpsIn (FW r) n P ops Q (List.range' i l.length) a W:=by
 intro l
 induction l with
 |nil=>intro i acc st a W ι _ hv h;exact hK _ _ _ _ _ hv h
 |cons o l ih=>
  intro i acc st a W ι hd hv h
  have hoi:ops[i]? =some o:=by
   have:(ops.toList.drop i)[0]? =some o:=by rw [hd];rfl
   simpa using this
  have hd':ops.toList.drop (i+1)=l:=by
   rw [←List.drop_drop,hd];rfl
  rw [List.length_cons,List.range'_succ]
  simp only [wpOpsIn,hoi]
  unfold vcOps at hv
  split at hv
  ·rename_i hg
   rw [if_pos (by simp [Region.wanted,hg])]
   exact vcStep_sound h hv fun l' st' a' W' ι' hk _ hrel=>ih (i+1) _ _ _ _ ι' hd' hk hrel
  ·rename_i j want hg
   split at hv
   ·rename_i b hb
    cases hd2:(ops[j]?).bind (·.dst) with
    |none=>rw [hd2] at hb;simp [ev] at hb
    |some d=>
     rw [hd2] at hb
     have hsd:=h.ev (.tmp d)
     rw [hb] at hsd
     have hval:=(sd_v hsd).1
     have hy:yielded ops a.tmps j=some b:=by
      unfold yielded
      rw [hd2]
      simp only [Option.bind_some]
      have:a.tmps.getD d undef= .bool b:=hval
      cases hq:a.tmps[d]? with
      |none=>rw [Array.getD_eq_getD_getElem?,hq] at this;simp [undef] at this
      |some q=>rw [Array.getD_eq_getD_getElem?,hq] at this;simp at this;rw [this]
     by_cases hbw:b=want
     ·rw [if_pos (by simp [Region.wanted,hg,hy,hbw])]
      exact vcStep_sound h (hv.1 hbw) fun l' st' a' W' ι' hk _ hrel=>ih (i+1) _ _ _ _ ι' hd' hk hrel
     ·rw [if_neg (by simp [Region.wanted,hg,hy,hbw])]
      refine ⟨fun f _=>FW.fn r f, ?_⟩
      refine ih (i+1) _ _ _ _ ι hd' (hv.2 hbw) ?_
      exact h.put (StepTo.refl h.tok) (sd_und _ _ _ _)
   ·rename_i hb
    cases hd2:(ops[j]?).bind (·.dst) with
    |none=>rw [hd2] at hb;simp [ev] at hb
    |some d=>
     rw [hd2] at hb
     have hsd:=h.ev (.tmp d)
     rw [hb] at hsd
     have hy:=yielded_und (ops:=ops) (a:=a) hd2 (und_sd hsd)
     rw [if_neg (by simp [Region.wanted,hg,hy])]
     refine ⟨fun f _=>FW.fn r f, ?_⟩
     refine ih (i+1) _ _ _ _ ι hd' hv ?_
     exact h.put (StepTo.refl h.tok) (sd_und _ _ _ _)
   ·exact hv.elim
end
end Go.Nv
end
section
namespace Go.Nv
open Go.RowKit
section
variable {P:Program} {σ σ':Operand→S} {τ τ':Nat→B} {k0:Nat} {m:Bool} {ty:TypeId} {e:Eff}
theorem mem_tch{op:Op}{x:Operand}{k:Nat}(hx:x∈op.operands.toList)(hk:k∈(σ x).refs)(hop:tchOp σ op=op.operands.toList.flatMap fun x=>(σ x).refs):k∈tchOp σ op:=by
 rw [hop];exact List.mem_flatMap.2 ⟨x,hx,hk⟩
theorem oneS_local{vr vr':Nat→Option (Option Nat)}{s:S}(h: ∀k∈s.refs,vr k=vr' k):oneS vr s=oneS vr' s:=by
 cases s<;>simp [oneS]
 ·rename_i k n _;rw [h k (by simp [S.refs])]
 ·rename_i k n;rw [h k (by simp [S.refs])]
theorem refs_mem{cs:List S}{c:S}(hc:c∈cs){k:Nat}(hk:k∈c.refs):k∈S.refs.refsL cs:=by
 induction cs with
 |nil=>simp at hc
 |cons d cs ih=>
  simp only [S.refs.refsL,List.mem_append]
  rcases List.mem_cons.1 hc with rfl|hc
  ·exact .inl hk
  ·exact .inr (ih hc)
theorem refs_cells{s c:S}(hc:c∈s.cells){k:Nat}(hk:k∈c.refs):k∈s.refs:=by
 cases s<;>simp only [S.cells] at hc
 ·simp at hc;obtain ⟨d,_,rfl⟩:=hc;simp [S.refs] at hk
 ·simp at hc;subst hc;exact hk
 ·simp at hc;subst hc;exact hk
 ·simp at hc;subst hc;exact hk
 ·simp at hc;subst hc;exact hk
 ·simp only [S.refs];exact refs_mem hc hk
 ·simp at hc;subst hc;exact hk
theorem okS_local{vr vr':Nat→Option (Option Nat)}{s:S}(h: ∀k∈s.refs,vr k=vr' k):okS vr s=okS vr' s:=by
 have hone: ∀c∈s.cells,oneS vr c=oneS vr' c:=fun c hc=>oneS_local fun k hk=>h k (refs_cells hc hk)
 cases s<;>simp only [okS]
 all_goals rw [Bool.eq_iff_iff,List.all_eq_true,List.all_eq_true];exact ⟨fun h c hc=>by rw [←hone c hc];exact h c hc,fun h c hc=>by rw [hone c hc];exact h c hc⟩
theorem opA_local{op:Op}(hσ: ∀x∈op.operands.toList,σ x=σ' x)(hτ: ∀k∈tchOp σ op,τ k=τ' k):opA P k0 m σ τ ty op=opA P k0 m σ' τ' ty op:=by
 have hv: ∀k∈tchOp σ op,verT τ k=verT τ' k:=fun k hk=>by unfold verT;rw [hτ k hk]
 cases op with
 |move x=>simp only [opA];rw [hσ x (by simp [Op.operands])]
 |assign x=>simp only [opA];split<;>first|rfl|(rw [hσ x (by simp [Op.operands])])
 |pick c a b=>simp only [opA];rw [hσ c (by simp [Op.operands]),hσ a (by simp [Op.operands]),hσ b (by simp [Op.operands])]
 |alloc t=>rfl
 |box t x=>
  have h1:=hσ x (by simp [Op.operands])
  have hone:okS (verT τ) (σ x)=okS (verT τ') (σ x):=okS_local fun k hk=>hv k (mem_tch (x:=x) (by simp [Op.operands]) hk rfl)
  simp only [opA]
  rw [←h1]
  split
  ·rfl
  ·simp only [hone]
 |buildSlice t n ps=>
  simp only [opA]
  have:(ps.toList.map (·.2)).map σ=(ps.toList.map (·.2)).map σ':=List.map_congr_left fun x hx=>hσ x (by simpa [Op.operands] using hx)
  rw [this]
 |build t ps=>
  have h1:(ps.toList.map fun x=>(x.1,σ x.2))=ps.toList.map fun x=>(x.1,σ' x.2):=List.map_congr_left fun x hx=>by rw [hσ x.2 (by simp [Op.operands];exact ⟨x.1,by simpa using hx⟩)]
  have h2:(ps.toList.all fun x=>okS (verT τ) (σ x.2))=(ps.toList.all fun x=>okS (verT τ') (σ' x.2)):=by
   rw [Bool.eq_iff_iff,List.all_eq_true,List.all_eq_true]
   have key: ∀x∈ps.toList,okS (verT τ) (σ x.2)=okS (verT τ') (σ' x.2):=fun x hx=>by
    have hm:x.2∈(Op.build t ps).operands.toList:=by simp [Op.operands];exact ⟨x.1,by simpa using hx⟩
    rw [←hσ x.2 hm]
    exact okS_local fun k hk=>hv k (mem_tch (x:=x.2) hm hk rfl)
   exact ⟨fun h x hx=>by rw [←key x hx];exact h x hx,fun h x hx=>by rw [key x hx];exact h x hx⟩
  simp only [opA,h1,h2]
 |load t x=>
  have h1:=hσ x (by simp [Op.operands])
  simp only [opA]
  rw [←h1]
  cases hs:σ x with
  |ptr k ver off=>
   have h2:=hτ k (mem_tch (x:=x) (by simp [Op.operands]) (by rw [hs];simp [S.refs]) rfl)
   simp only [h2]
  |d y=>cases y<;>first|rfl|(rename_i z;cases z<;>rfl)
  |_=>rfl
 |store t x y=>
  have h1:=hσ x (by simp [Op.operands])
  have h2:=hσ y (by simp [Op.operands])
  have hall:okS (verT τ) (σ y)=okS (verT τ') (σ y):=okS_local fun k hk=>hv k (mem_tch (x:=y) (by simp [Op.operands]) hk rfl)
  simp only [opA]
  rw [←h1, ←h2]
  cases hs:σ x with
  |ptr k ver off=>
   have h3:=hτ k (mem_tch (x:=x) (by simp [Op.operands]) (by rw [hs];simp [S.refs]) rfl)
   simp only [h3,hall]
  |d y=>cases y<;>first|rfl|(rename_i z;cases z<;>rfl)
  |_=>rfl
 |nilCheck x=>
  have h1:=hσ x (by simp [Op.operands])
  simp only [opA]
  rw [←h1]
  cases hs:σ x with
  |ptr k ver off=>
   have h2:=hv k (mem_tch (x:=x) (by simp [Op.operands]) (by rw [hs];simp [S.refs]) rfl)
   simp only [h2]
  |d y=>cases y<;>first|rfl|(rename_i z;cases z<;>rfl)
  |_=>rfl
 |binOp op xt x y yt=>simp only [opA];rw [hσ x (by simp [Op.operands]),hσ y (by simp [Op.operands])]
 |unOp op t x=>simp only [opA];rw [hσ x (by simp [Op.operands])]
 |convert s d x=>simp only [opA];rw [hσ x (by simp [Op.operands])]
 |makeFunc f a b=>
  cases f with
  |func g=>
   simp only [opA]
   have:b.toList.map σ=b.toList.map σ':=List.map_congr_left fun x hx=>hσ x (by simp [Op.operands];exact .inr (by simpa using hx))
   rw [this]
  |_=>rfl
 |makeSlice t l c=>simp only [opA];rw [hσ l (by simp [Op.operands]),hσ c (by simp [Op.operands])]
 |slice t x lo hi mx=>
  cases mx with
  |none=>
   have h1:=hσ x (by simp [Op.operands])
   have h2: ∀d,intS σ lo d=intS σ' lo d:=by
    intro d;cases lo with
    |none=>rfl
    |some y=>simp only [intS];rw [hσ y (by simp [Op.operands])]
   have h3: ∀d,intS σ hi d=intS σ' hi d:=by
    intro d;cases hi with
    |none=>rfl
    |some y=>simp only [intS];rw [hσ y (by simp [Op.operands])]
   simp only [opA,h1,h2,h3]
  |some _=>rfl
 |fieldAddr s x f=>
  have h1:=hσ x (by simp [Op.operands])
  simp only [opA]
  rw [←h1]
  cases hs:σ x with
  |ptr k ver off=>
   have h2:=hv k (mem_tch (x:=x) (by simp [Op.operands]) (by rw [hs];simp [S.refs]) rfl)
   simp only [h2]
  |d y=>cases y<;>first|rfl|(rename_i z;cases z<;>rfl)
  |_=>rfl
 |field s x f=>simp only [opA];rw [hσ x (by simp [Op.operands])]
 |indexAddr t x i=>
  have h1:=hσ x (by simp [Op.operands])
  have h2:=hσ i (by simp [Op.operands])
  simp only [opA]
  rw [←h1, ←h2]
  cases hs:σ x with
  |own k ver=>
   have h3:=hτ k (mem_tch (x:=x) (by simp [Op.operands]) (by rw [hs];simp [S.refs]) rfl)
   generalize σ i=q
   cases q with
   |d y=>cases y with
    |v z=>cases z with
     |int kk n=>cases elemT P t<;>simp only [h3]
     |_=>rfl
    |_=>rfl
   |_=>rfl
  |d y=>cases y<;>first|rfl|(generalize σ i=q;cases q<;>first|rfl|(rename_i w;cases w<;>first|rfl|(rename_i z;cases z<;>first|rfl|(cases elemT P t<;>rfl))|(cases elemT P t<;>rfl)))
  |_=>rfl
 |index t x i=>simp only [opA];rw [hσ x (by simp [Op.operands]),hσ i (by simp [Op.operands])]
 |extract x i=>simp only [opA];rw [hσ x (by simp [Op.operands])]
 |call c=>
  obtain ⟨cal,args,ts⟩:=c
  cases cal with
  |builtin b=>
   cases b with
   |len=>
    simp only [opA]
    split
    ·rename_i x t hargs hts
     have ha:args= #[x] :=by cases args;simp_all
     subst ha
     have h1:=hσ x (by simp [Op.operands,Call.operands])
     rw [←h1]
     cases hs:σ x with
     |own k ver=>
      have h3:=hτ k (mem_tch (x:=x) (by simp [Op.operands,Call.operands]) (by rw [hs];simp [S.refs]) rfl)
      simp only [h3]
     |d y=>cases y<;>first|rfl|(rename_i z;cases z<;>rfl)
     |_=>rfl
    ·rfl
   |max=>
    simp only [opA]
    split
    ·rename_i x y hargs
     have ha:args= #[x,y] :=by cases args;simp_all
     subst ha
     rw [hσ x (by simp [Op.operands,Call.operands]),hσ y (by simp [Op.operands,Call.operands])]
    ·rfl
   |append=>
    simp only [opA]
    split
    ·rename_i s x t t' hargs hts
     have ha:args= #[s,x] :=by cases args;simp_all
     subst ha
     have h1:=hσ s (by simp [Op.operands,Call.operands])
     have h2:=hσ x (by simp [Op.operands,Call.operands])
     rw [←h1, ←h2]
     cases hs:σ s with
     |own k ver=>
      have h3:=hτ k (mem_tch (x:=s) (by simp [Op.operands,Call.operands]) (by rw [hs];simp [S.refs]) rfl)
      generalize σ x=q
      cases q with
      |d y=>cases y with
       |l ys=>cases elemT P t<;>simp only [h3]
       |_=>rfl
      |_=>rfl
     |_=>rfl
    ·rfl
   |_=>rfl
  |value f=>rfl
  |invoke r mm=>rfl
 |_=>rfl
theorem opA_k0{op:Op}(h:opA P k0 m σ τ ty op=some e):(∃b,e.upd=some (k0,b))∨ ∀k1,opA P k1 m σ τ ty op=some e:=by
 cases op with
 |assign x=>
  simp only [opA] at h
  split at h
  ·split at h
   ·simp at h;subst h;exact .inl ⟨_,rfl⟩
   ·simp at h
  ·rename_i hne
   right;intro k1
   simp only [opA]
   exact h
 |alloc t=>
  simp only [opA] at h
  split at h
  ·simp at h;subst h;exact .inl ⟨_,rfl⟩
  ·simp at h
 |box t x=>
  cases m with
  |false=>
   cases hs:σ x with
   |d y=>right;intro k1;simp only [opA,hs] at h ⊢;exact h
   |_=>left;simp only [opA,hs] at h;simp at h;subst h;exact ⟨_,rfl⟩
  |true=>left;simp only [opA] at h;simp at h;subst h;exact ⟨_,rfl⟩
 |buildSlice t n ps=>
  simp only [opA] at h
  split at h
  ·rename_i e' ds h1 h2
   split at h
   ·rename_i hc
    cases m with
    |true=>left;simp at h;subst h;exact ⟨_,rfl⟩
    |false=>right;intro k1;simp only [opA,h1,h2,if_pos hc];simpa using h
   ·simp at h
  ·simp at h
 |makeSlice t l c=>
  simp only [opA] at h
  split at h
  ·split at h
   ·simp at h;subst h;exact .inl ⟨_,rfl⟩
   ·simp at h
  ·simp at h
 |call c=>
  obtain ⟨cal,args,ts⟩:=c
  cases cal with
  |builtin b=>cases b<;>exact .inr fun _=>h
  |value f=>exact .inr fun _=>h
  |invoke r mm=>exact .inr fun _=>h
 |slice t x lo hi mx=>cases mx<;>exact .inr fun _=>h
 |makeFunc f a b=>cases f<;>exact .inr fun _=>h
 |_=>exact .inr fun _=>h
theorem opE_local{op:Op}(hσ: ∀x∈op.operands.toList,σ x=σ' x)(hτ: ∀k∈tchOp σ op,τ k=τ' k):opE P σ τ op=opE P σ' τ' op:=by
 have hv: ∀k∈tchOp σ op,verT τ k=verT τ' k:=fun k hk=>by unfold verT;rw [hτ k hk]
 cases op with
 |convert s d x=>
  have h1:=hσ x (by simp [Op.operands])
  simp only [opE]
  rw [←h1]
  cases hs:σ x with
  |own k ver=>
   have h3:=hτ k (mem_tch (x:=x) (by simp [Op.operands]) (by rw [hs];simp [S.refs]) rfl)
   simp only [h3]
  |d y=>cases y<;>rfl
  |_=>rfl
 |indexAddr t x i=>
  have h1:=hσ x (by simp [Op.operands])
  have h2:=hσ i (by simp [Op.operands])
  simp only [opE]
  rw [←h1, ←h2]
  cases hs:σ x with
  |ptr k ver off=>
   have h3:=hv k (mem_tch (x:=x) (by simp [Op.operands]) (by rw [hs];simp [S.refs]) rfl)
   simp only [h3]
  |d y=>cases y<;>rfl
  |_=>rfl
 |index t x i=>
  have h1:=hσ x (by simp [Op.operands])
  have h2:=hσ i (by simp [Op.operands])
  simp only [opE]
  rw [←h1, ←h2]
 |slice t x lo hi mx=>
  cases mx with
  |some _=>rfl
  |none=>
   have h1:=hσ x (by simp [Op.operands])
   have h2: ∀d,intS σ lo d=intS σ' lo d:=by
    intro d;cases lo with
    |none=>rfl
    |some y=>simp only [intS];rw [hσ y (by simp [Op.operands])]
   have h3: ∀d,intS σ hi d=intS σ' hi d:=by
    intro d;cases hi with
    |none=>rfl
    |some y=>simp only [intS];rw [hσ y (by simp [Op.operands])]
   simp only [opE]
   rw [←h1]
   cases hs:σ x with
   |own k ver=>
    have h4:=hτ k (mem_tch (x:=x) (by simp [Op.operands]) (by rw [hs];simp [S.refs]) rfl)
    simp only [h4,h2,h3]
   |ptr k ver off=>
    have h4:=hτ k (mem_tch (x:=x) (by simp [Op.operands]) (by rw [hs];simp [S.refs]) rfl)
    cases off with
    |zero=>simp only [h4,h2,h3]
    |succ o=>rfl
   |d y=>cases y<;>rfl
   |_=>rfl
 |call c=>
  obtain ⟨cal,args,ts⟩:=c
  cases cal with
  |builtin b=>
   cases b with
   |min=>
    simp only [opE]
    split
    ·rename_i x y hargs
     have ha:args= #[x,y] :=by cases args;simp_all
     subst ha
     rw [hσ x (by simp [Op.operands,Call.operands]),hσ y (by simp [Op.operands,Call.operands])]
    ·rfl
   |_=>rfl
  |value f=>rfl
  |invoke r mm=>rfl
 |_=>rfl
theorem opS_local{op:Op}(hσ: ∀x∈op.operands.toList,σ x=σ' x)(hτ: ∀k∈tchOp σ op,τ k=τ' k):opS P k0 m σ τ ty op=opS P k0 m σ' τ' ty op:=by
 unfold opS
 rw [opA_local hσ hτ,opE_local hσ hτ]
theorem opS_k0{op:Op}(h:opS P k0 m σ τ ty op=some e):(∃b,e.upd=some (k0,b))∨ ∀k1,opS P k1 m σ τ ty op=some e:=by
 unfold opS at h
 split at h
 ·rename_i e' he
  simp at h;subst h
  rcases opA_k0 he with h|h
  ·exact .inl h
  ·exact .inr fun k1=>opS_of (h k1)
 ·rename_i hn
  right
  intro k1
  unfold opS
  have:opA P k1 m σ τ ty op=none:=by
   cases op with
   |convert s d x=>exact hn
   |indexAddr t x i=>exact hn
   |index t x i=>exact hn
   |slice t x lo hi mx=>cases mx<;>exact hn
   |call c=>
    obtain ⟨cal,args,ts⟩:=c
    cases cal with
    |builtin b=>cases b<;>exact hn
    |value f=>exact hn
    |invoke r mm=>exact hn
   |_=>simp [opE] at h
  rw [this];exact h
end
end Go.Nv
end
