import Derived.Maps.AppendAt
import Derived.Great.BuildSlice
import Derived.Laws.AppendOwnNone
import Derived.Laws.MakeOwn
import Derived.Laws.BytesArg
import Derived.Test.YtlmmifgminkdkaaGreatNvN1
set_option linter.all false
set_option maxRecDepth 100000
section
namespace Go.Nv
open Go.RowKit
section
variable {P:Program} {old bs:Nat->Prop} {W:World} {ι:Nat->Value} {τ:Nat->B} {ρ:Operand->Value} {σ:Operand->S} {o:Oper} {k0:Nat} {mu:Bool} {e:Eff}
theorem qcD{us vs:List Value}(h: ∀(i:Nat) (u:Value),us[i]? =some u->u.oneCell'=true)(k: ∀(i:Nat) (u:Value),vs[i]? =some u->u.oneCell'=true):
  ∀(i:Nat) (u:Value),(us++vs)[i]? =some u->u.oneCell'=true:=by
 intro i u hu
 rcases List.mem_append.1 (List.mem_of_getElem? hu) with h'|h'
 ·obtain ⟨j,hj⟩:=List.getElem?_of_mem h';exact h j u hj
 ·obtain ⟨j,hj⟩:=List.getElem?_of_mem h';exact k j u hj
theorem qf0{us vs:List Value}(h: ∀(i:Nat) (u:Value),us[i]? =some u->u.oneCell'=true)(hs: ∀u∈vs,u∈us): ∀(i:Nat) (u:Value),vs[i]? =some u->u.oneCell'=true:=by
 intro i u hu
 obtain ⟨j,hj⟩:=List.getElem?_of_mem (hs u (List.mem_of_getElem? hu))
 exact h j u hj
theorem qpc(hT:TOk W old bs ι τ)(hN:qbO old W){t:TypeId}{x y:Operand}(ho:o.op= .store t x y)(ht:(P.underlying t).isSome=true){k off:Nat}{bt:TypeId}{cs:List S}(hk:τ k= .box bt cs)
  (hx:qaG W ι (qap τ) (okT bs τ ι) (.ptr k 0 off) (ρ x)) (hy:qao W ι (qap τ) (okT bs τ ι) (σ y).cells (ρ y).cells.toList) (h1: ∀u∈(ρ y).cells.toList,u.oneCell'=true)
  (hl:off+(σ y).cells.length<=cs.length) (hsz:(σ y).cells.length=P.cellsOf t):
  qbg P old bs W ι τ o ρ .top (some (k,.box bt (splice cs off (σ y).cells))):=by
 obtain ⟨dd,hdd⟩:=Option.isSome_iff_exists.1 ht
 have he:=hT.ent k
 rw [hk] at he
 obtain ⟨b,us,hi,hold,hh,hsd,h1u⟩:=he
 obtain ⟨b',hb',hv⟩:=qc1 hx (by simp [qap,hk,B.ver])
 rw [hi] at hb';simp [blk] at hb';subst hb'
 have hylen:(ρ y).cells.size=(σ y).cells.length:=by have:=hy.1;simpa using this
 obtain ⟨W',hr,hg,hs',cs',hb2,hcs'⟩:=qhp (P:=P) ho hdd b off hv hh (by rw [hylen,hsz]) (by rw [hylen];simp [hsd.1];omega) h1
 have hst:qax old bs W ι τ W' (at_ ι k (ι k)) (at_ τ k (.box bt (splice cs off (σ y).cells))):=by
  refine hT.upd hN k _ _ hg (by simp;rw [hk,hi];simp [blk,B.live]) (by intro b2 _ hb;right;rw [hk];exact ⟨rfl,hb⟩) (by intro c hc;rw [hk] at hc;exact ⟨c,hc,fun m e=>⟨m,e,Nat.le_refl _,fun _=>rfl⟩⟩) ?_
  intro hkeep hok hv'
  refine ⟨b,cs'.toList,by rw [qam];exact hi,hold,by simpa using hb2, ?_, ?_⟩
  ·rw [hcs']
   have a1:=(hsd.take off).append hy
   have a2:=a1.append (hsd.drop (off+(σ y).cells.length))
   have:=a2.keep hkeep hok hv'
   rw [hylen]
   simpa [splice] using this
  ·rw [hcs']
   refine qcD (qcD (qf0 h1u fun u hu=> ?_) fun i u hu=>h1 u (List.mem_of_getElem? hu)) (qf0 h1u fun u hu=> ?_)
   ·simpa using List.mem_of_mem_take hu
   ·simpa using List.mem_of_mem_drop hu
 exact ⟨undef,W',at_ ι k (ι k),.inr ⟨hr,rfl⟩,hst,.top⟩
theorem qbi{size:Nat}: ∀{xs:List D},Uni size xs->(flat xs).length=xs.length*size
 | [],_=>by simp [flat]
 |x::xs,h=>by
  have h1:=qbi (xs:=xs) (fun y hy=>h y (List.mem_cons_of_mem _ hy))
  have h2:=h x (List.mem_cons_self ..)
  simp [flat] at h1 ⊢
  rw [Nat.add_mul]
  omega
theorem qih(xs ys:List D):flat (xs++ys)=flat xs++flat ys:=by simp [flat]
theorem qfV{size:Nat}{xs:List D}(h:Uni size xs)(n:Nat):flat (xs.take n)=(flat xs).take (n*size):=by
 induction xs generalizing n with
 |nil=>simp [flat]
 |cons x xs ih=>
  cases n with
  |zero=>simp [flat]
  |succ n=>
   have h2:=h x (List.mem_cons_self ..)
   have h3:=ih (fun y hy=>h y (List.mem_cons_of_mem _ hy)) n
   simp [flat] at h3 ⊢
   rw [h3,List.take_append,h2,Nat.add_mul]
   have:List.take (n*size+1*size) x.cells=x.cells:=List.take_of_length_le (by omega)
   rw [this]
   congr 2
   omega
theorem qeh{size:Nat}{xs:List D}(h:Uni size xs)(n:Nat):flat (xs.drop n)=(flat xs).drop (n*size):=by
 induction xs generalizing n with
 |nil=>simp [flat]
 |cons x xs ih=>
  cases n with
  |zero=>simp [flat]
  |succ n=>
   have h2:=h x (List.mem_cons_self ..)
   have h3:=ih (fun y hy=>h y (List.mem_cons_of_mem _ hy)) n
   simp [flat] at h3 ⊢
   rw [h3,List.drop_append,h2,Nat.add_mul]
   have:List.drop (n*size+1*size) x.cells= [] :=List.drop_of_length_le (by omega)
   rw [this]
   simp
theorem qj5{size:Nat}{xs:List D}(h:Uni size xs){i:Nat}{x:D}(hi:i<xs.length):flat (xs.set i x)=(flat xs).take (i*size)++x.cells++(flat xs).drop ((i+1)*size):=by
 rw [List.set_eq_take_append_cons_drop,if_pos hi,qih,qfV h, <-qeh h]
 simp [flat]
theorem Den.notAgg{W:World}{ok:Nat->Prop}{d:D}{v:Value}(h:Den W ok d v)(h1:v.oneCell'=true):d.cells= [d] :=by
 cases h<;>first|rfl|simp [Value.oneCell'] at h1
theorem qkR{size:Nat}{xs xs':List D}{off:Nat}{ds:List D}(hu:Uni size xs)(h0:0<size)(hds: ∀d∈ds,d.cells= [d])(h:qdj size xs off ds=some xs'):
  xs'.length=xs.length/\off+ds.length<=(flat xs).length/\flat xs'=(flat xs).take off++ds++(flat xs).drop (off+ds.length):=by
 unfold qdj at h
 have hq:off=off/size*size+off%size:=by rw [Nat.mul_comm];exact (Nat.div_add_mod off size).symm
 have hr:off%size<size:=Nat.mod_lt _ h0
 generalize off/size=i at h hq
 generalize off%size=r at h hq hr
 subst hq
 simp only at h
 split at h
 ·rename_i cs hx
  have hi:i<xs.length:=(List.getElem?_eq_some_iff.1 hx).1
  have hcl:cs.length=size:=hu _ (List.mem_of_getElem? hx)
  split at h
  ·rename_i hle
   simp at h;subst h
   have hfl:=qbi hu
   have hfi:(i+1)*size<=xs.length*size:=Nat.mul_le_mul_right _ hi
   rw [Nat.add_mul] at hfi
   have hxe:xs.set i (.a cs)=xs:=by
    apply List.ext_getElem?
    intro j
    rw [List.getElem?_set]
    split
    ·rename_i e;subst e;simpa using hx.symm
    ·rfl
   have e0:flat xs=(flat xs).take (i*size)++cs++(flat xs).drop ((i+1)*size):=by
    have:=qj5 hu (x:= .a cs) hi
    rw [hxe] at this
    simpa [D.cells] using this
   have hA:((flat xs).take (i*size)).length=i*size:=by simp;omega
   refine ⟨by simp,by omega, ?_⟩
   rw [qj5 hu hi]
   generalize (flat xs).take (i*size)=A at*
   generalize (flat xs).drop ((i+1)*size)=C at*
   rw [e0]
   have t1:List.take (i*size+r) A=A:=List.take_of_length_le (by omega)
   have t2:List.take (r-size) C= [] :=by rw [show r-size=0 from by omega];rfl
   have t3:List.drop (i*size+r+ds.length) A= [] :=List.drop_of_length_le (by omega)
   have t4:List.drop (r+ds.length-size) C=C:=by rw [show r+ds.length-size=0 from by omega];rfl
   simp only [D.cells,List.take_append,List.drop_append,List.length_append,hA,hcl,t1,t2,t3,t4,List.append_assoc,List.append_nil,List.nil_append]
   rw [show i*size+r-i*size=r from by omega,show i*size+r+ds.length-i*size=r+ds.length from by omega,t2,t4]
   simp
  ·simp at h
 ·rename_i d hna hx
  have hi:i<xs.length:=(List.getElem?_eq_some_iff.1 hx).1
  have hcl:d.cells.length=size:=hu _ (List.mem_of_getElem? hx)
  have hd:d.cells= [d] :=by cases d<;>first|rfl|exact absurd rfl (hna _)
  rw [hd] at hcl
  simp at hcl
  subst hcl
  split at h
  ·rename_i d'
   simp at h;subst h
   have hfl:=qbi hu
   have hr0:r=0:=by omega
   subst hr0
   refine ⟨by simp,by simp;omega, ?_⟩
   rw [qj5 hu hi,hds d' (by simp)]
   simp
  ·simp at h
 ·simp at h
theorem qbl{k v:Nat}{e:TypeId}{size bytes:Nat}{xs:List D}(hk:τ k= .row v e size bytes xs):qap τ k=some (some v):=by simp [qap,hk,B.ver]
theorem qpd(hT:TOk W old bs ι τ)(hN:qbO old W){t:TypeId}{x y:Operand}(ho:o.op= .store t x y)(ht:(P.underlying t).isSome=true){k v off:Nat}{et:TypeId}{size bytes:Nat}{xs xs':List D}(hk:τ k= .row v et size bytes xs)
  (hx:qaG W ι (qap τ) (okT bs τ ι) (.ptr k v off) (ρ x)) {d:D} (hy:Den W (okT bs τ ι) d (ρ y)) (hs:qdj size xs off d.cells=some xs') (hsz:d.cells.length=P.cellsOf t) (hu:Uni size xs) (h0:0<size):
  qbg P old bs W ι τ o ρ .top (some (k,.row v et size bytes xs')):=by
 obtain ⟨dd,hdd⟩:=Option.isSome_iff_exists.1 ht
 have he:=hT.ent k
 rw [hk] at he
 obtain ⟨us,hown,hd,h1u,hnew⟩:=he
 obtain ⟨hyl,hy1⟩:=hy.cellsL
 have hone: ∀c∈d.cells,c.cells= [c] :=by
  intro c hc
  obtain ⟨i,hi⟩:=List.getElem?_of_mem hc
  obtain ⟨u,hu',hdu⟩:=hyl.at hi
  exact hdu.notAgg (hy1 u (List.mem_of_getElem? hu'))
 obtain ⟨hlen,hle,hfl⟩:=qkR hu h0 hone hs
 obtain ⟨b,hb,hv⟩:=qc1 hx (qbl hk)
 have hylen:(ρ y).cells.size=d.cells.length:=by have:=hyl.1;simpa using this
 rcases hown with ⟨hul,⟨hn,hz⟩|⟨g,cap,cur,hi,_,hh,hcap,hmax,hcs,htake⟩⟩
 ·rw [hn] at hb;simp [blk] at hb
 ·rw [hi] at hb;simp [blk] at hb;subst hb
  have huu:=qbi hu
  have hfc:(flat xs).length<=cur.size:=by rw [huu,hcs];exact Nat.mul_le_mul_right _ hcap
  obtain ⟨W',hr,hg,hs',cs',hb2,hcs'⟩:=qhp (P:=P) ho hdd g off hv hh (by rw [hylen,hsz]) (by rw [hylen];omega) hy1
  have hdl:=hd.1
  have hsz':cs'.size=cur.size:=by
   have:cs'.toList.length=cur.toList.length:=by rw [hcs',hylen];simp;omega
   simpa using this
  have htk:cs'.toList.take (xs'.length*size)=us.take off++(ρ y).cells.toList++us.drop (off+d.cells.length):=by
   rw [hcs',hylen,hlen, <-huu, <-hdl]
   have e1:us=cur.toList.take us.length:=by rw [hdl,huu];exact htake.symm
   have e2:us.take off=cur.toList.take off:=by rw [e1,List.take_take,Nat.min_eq_left (by omega)]
   have e3:us.drop (off+d.cells.length)=(cur.toList.take us.length).drop (off+d.cells.length):=by rw [<-e1]
   rw [e2,e3]
   have l1:(cur.toList.take off).length=off:=by simp;omega
   have l2:((ρ y).cells.toList).length=d.cells.length:=by simpa using hylen
   rw [List.take_append,List.take_append,List.drop_take]
   rw [List.take_of_length_le (l:=cur.toList.take off) (by omega),List.take_of_length_le (l:=(ρ y).cells.toList) (by omega)]
   rw [List.length_append,l1,l2]
  have hst:qax old bs W ι τ W' (at_ ι k (ι k)) (at_ τ k (.row v et size bytes xs')):=by
   refine hT.upd hN k _ _ hg (by simp;rw [hk,hi];simp [blk,B.live]) (by intro b2 _ hb;right;rw [hk];exact ⟨rfl,hb⟩) (by intro c hc;rw [hk] at hc;exact ⟨c,hc,fun m e=>⟨m,e,Nat.le_refl _,fun _=>rfl⟩⟩) ?_
   intro hkeep hok hv'
   refine ⟨us.take off++(ρ y).cells.toList++us.drop (off+d.cells.length), ?_, ?_, ?_,by rw [qam];exact hnew⟩
   ·rw [qam,hi]
    refine ⟨?_,.inr ⟨g,cap,cs',by rw [hlen],Nat.zero_le _,hb2,by omega,hmax,by rw [hsz',hcs],htk⟩⟩
    rw [<-htk];simp;rw [hsz',hcs,hlen];exact Nat.min_eq_left (Nat.mul_le_mul_right _ hcap)
   ·rw [hfl]
    exact (((hd.take off).append hyl).append (hd.drop (off+d.cells.length))).keep hkeep hok
   ·refine qcD (qcD (qf0 h1u fun u hu=> ?_) fun i u hu=>hy1 u (List.mem_of_getElem? hu)) (qf0 h1u fun u hu=> ?_)
    ·exact List.mem_of_mem_take hu
    ·exact List.mem_of_mem_drop hu
  exact ⟨undef,W',at_ ι k (ι k),.inr ⟨hr,rfl⟩,hst,.top⟩
theorem qsQ(hT:TOk W old bs ι τ)(hN:qbO old W){t:TypeId}{x y:Operand}(ho:o.op= .store t x y)(hx:qaG W ι (qap τ) (okT bs τ ι) (σ x) (ρ x))(hy:qaG W ι (qap τ) (okT bs τ ι) (σ y) (ρ y))
  (h:opA P k0 mu σ τ o.type (.store t x y)=some e) (hs:e.side):qbg P old bs W ι τ o ρ e.val e.upd:=by
 simp only [opA] at h
 split at h
 ·rename_i ht
  split at h
  ·rename_i k ver off hp
   rw [hp] at hx
   split at h
   ·rename_i bt cs hk
    split at h
    ·rename_i hc
     obtain ⟨rfl,hl⟩:=hc
     simp at h;subst h
     simp only at hs
     obtain ⟨h1,h2⟩:=hy.cellsS hs.2 hT
     exact qpc hT hN ho ht hk hx h1 h2 hl hs.1
    ·simp at h
   ·rename_i v et size bytes xs hk
    split at h
    ·rename_i d hd
     split at h
     ·rename_i hv
      subst hv
      obtain ⟨xs',he,rfl⟩: ∃xs',qdj size xs off d.cells=some xs'/\_=e:=by simpa using h
      rw [hd] at hy
      cases hy with
      |d hy=>exact qpd hT hN ho ht hk hx hy he hs.1 hs.2.1 hs.2.2
     ·simp at h
    ·simp at h
   ·simp at h
  ·simp at h
 ·simp at h
theorem qoD{W:World}{ok:Nat->Prop}{off n:Nat}{cs:List D}{v:Value}(h:Den W ok (.p off cs) v)(h0:0<n)(hl:off+n<=cs.length):Den W ok (.p 0 ((cs.drop off).take n)) v:=by
 cases h with
 | @p _ base b _ us hne hlen hok hc hd h1=>
  have hd':qaM W ok cs us:=⟨hlen,hd⟩
  have hp:Cells W b (base+off) ((us.drop off).take n):=Cells.part hc off n
  have hd2:=(hd'.drop off).take n
  have:=Den.p (off:=0) (base:=base+off) (W:=W) (ok:=ok) (b:=b) (us:=(us.drop off).take n) (cs:=(cs.drop off).take n) (by
   intro hn
   have:=congrArg List.length hn
   simp [hlen] at this;omega) hd2.1 hok hp hd2.2 (qfa h1 _ _)
  simpa using this
theorem qkx{size:Nat}{xs:List D}(hu:Uni size xs){i:Nat}{x:D}(hx:xs[i]? =some x):((flat xs).drop (i*size)).take size=x.cells/\i*size+size<=(flat xs).length/\x.cells.length=size:=by
 obtain ⟨hi,rfl⟩:=List.getElem?_eq_some_iff.1 hx
 have hsz:(xs[i]).cells.length=size:=hu _ (List.getElem_mem hi)
 have e:flat (xs.drop i)=(flat xs).drop (i*size):=qeh hu i
 have e2:flat (xs.drop i)=(xs[i]).cells++flat (xs.drop (i+1)):=by rw [List.drop_eq_getElem_cons hi];rfl
 refine ⟨by rw [<-e,e2, <-hsz];simp, ?_,hsz⟩
 have:=qbi hu
 rw [this]
 have:(i+1)*size<=xs.length*size:=Nat.mul_le_mul_right _ hi
 rw [Nat.add_mul] at this;omega
theorem qkG(hT:TOk W old bs ι τ){xt:TypeId}{x i:Operand}(ho:o.op= .indexAddr xt x i)(hx:qaG W ι (qap τ) (okT bs τ ι) (σ x) (ρ x))(hi:qaG W ι (qap τ) (okT bs τ ι) (σ i) (ρ i))
  (h:opA P k0 mu σ τ o.type (.indexAddr xt x i)=some e) (hs:e.side):qbg P old bs W ι τ o ρ e.val e.upd:=by
 simp only [opA] at h
 split at h
 ·rename_i xs kk n ee h1 h2 h3
  cases hy:xs[n.toNat]? with
  |none=>simp [hy] at h
  |some y=>
  simp [hy] at h;subst h
  obtain ⟨g0,hu,h0⟩:=hs
  have hlt:n.toNat<xs.length:=(List.getElem?_eq_some_iff.1 hy).1
  have g1:n<xs.length:=by omega
  obtain ⟨q1,q2,q3⟩:=qkx hu hy
  rw [h1] at hx;rw [h2] at hi
  obtain ⟨A,cap,hv,_,_,_,hrow⟩:=qu7 hx
  have hfl:=qbi hu
  have hne:flat xs≠ [] :=by
   intro hn
   rw [hn] at hfl
   have:0<xs.length*P.cellsOf ee:=Nat.mul_pos (by omega) h0
   simp at hfl;omega
  obtain ⟨b,off,us,rfl,hne',hok,hc,hd,h1'⟩:=hrow hne
  have ht:P.underlying xt=some (.slice ee):=by
   unfold qbw at h3;split at h3
   ·rename_i h4;simp at h3;subst h3;exact h4
   ·simp at h3
  refine qbg.pure hT (qd5 ho ht hv (qdg hi).1 g0 g1 (by omega)) ?_
  have:=qoD (Den.p (off:=n.toNat*P.cellsOf ee) hne' hd.1 hok hc hd.2 h1') h0 q2
  rw [q1] at this
  exact .d this
 ·rename_i k ver kk n ee h1 h2 h3
  split at h
  ·rename_i v et size bytes xs hk
   simp at h;subst h
   obtain ⟨rfl,hsz,g0,g1,hu,h0⟩:=hs
   rw [h1] at hx;rw [h2] at hi
   have hv:=qcw hx (qbl hk)
   have he:=hT.ent k
   rw [hk] at he
   obtain ⟨us,hown,_⟩:=he
   have ht:P.underlying xt=some (.slice ee):=by
    unfold qbw at h3;split at h3
    ·rename_i h4;simp at h3;subst h3;exact h4
    ·simp at h3
   rcases hown.2 with ⟨hn,hz⟩|⟨g,cap,cur,hiv,_⟩
   ·omega
   ·rw [hiv] at hv
    refine qbg.pure hT (qd5 ho ht hv (qdg hi).1 g0 g1 (by omega)) ?_
    refine .ptr (qaQ (qbl hk)) fun _=>⟨g,by rw [hiv];rfl, ?_⟩
    simp [hsz]
  ·simp at h
 ·simp at h
theorem qlD(hT:TOk W old bs ι τ){x:Operand}(ho:o.op= .nilCheck x)(hx:qaG W ι (qap τ) (okT bs τ ι) (σ x) (ρ x))
  (h:opA P k0 mu σ τ o.type (.nilCheck x)=some e) (hs:e.side):qbg P old bs W ι τ o ρ e.val e.upd:=by
 simp only [opA] at h
 split at h
 ·rename_i off cs h1
  simp at h;subst h
  rw [h1] at hx
  obtain ⟨b,base,us,hv,_⟩:=qx5 hx
  exact qbg.pure hT (v:=ρ x) (by simp [execOp,ho,hv]) hx
 ·rename_i k ver off h1
  simp at h;subst h
  rw [h1] at hx
  obtain ⟨b,hb,hv⟩:=qc1 hx hs
  exact qbg.pure hT (v:=ρ x) (by simp [execOp,ho,hv]) hx
 ·rename_i g cap h1
  simp at h;subst h
  rw [h1] at hx
  obtain ⟨us,hv,_⟩:=qwv hx
  exact qbg.pure hT (v:=ρ x) (by simp [execOp,ho,hv]) hx
 ·simp at h
theorem qbJ{t e:TypeId}(h:qbw P t=some e):P.underlying t=some (.slice e):=by
 unfold qbw at h;split at h
 ·rename_i h4;simp at h;subst h;exact h4
 ·simp at h
theorem qAY(hT:TOk W old bs ι τ){args:Array Operand}{ts:Array TypeId}(ho:o.op= .call {callee:= .builtin .len,args:=args,argTypes:=ts})(hx: ∀x,qaG W ι (qap τ) (okT bs τ ι) (σ x) (ρ x))
  (h:opA P k0 mu σ τ o.type (.call {callee:= .builtin .len,args:=args,argTypes:=ts})=some e) (hs:e.side):qbg P old bs W ι τ o ρ e.val e.upd:=by
 simp only [opA] at h
 split at h
 ·rename_i x t hargs hts
  have ha:args= #[x] :=by cases args;simp_all
  have hb:ts= #[t] :=by cases ts;simp_all
  subst ha;subst hb
  have hx:=hx x
  split at h
  ·rename_i xs h1
   simp at h;subst h
   rw [h1] at hx
   obtain ⟨A,cap,hv,_⟩:=qu7 hx
   obtain ⟨et,he⟩:=Option.isSome_iff_exists.1 hs
   exact qbg.pure hT (by simp [execOp,ho,resolve,invoke,builtin,Builtin.len_,hv,goInt,underlying,qbJ he]) (.d (.v rfl))
  ·rename_i s h1
   simp at h;subst h
   rw [h1] at hx
   have hv:=(qdg hx).1
   have hs:P.underlying t=some .string:=hs
   exact qbg.pure hT (by simp [execOp,ho,resolve,invoke,builtin,Builtin.len_,hv,goInt,underlying,hs]) (.d (.v rfl))
  ·rename_i k ver h1
   split at h
   ·rename_i v et size bytes xs hk
    simp at h;subst h
    obtain ⟨rfl,hs⟩:=hs
    rw [h1] at hx
    have hv:=qcw hx (qbl hk)
    have he:=hT.ent k
    rw [hk] at he
    obtain ⟨us,hown,_⟩:=he
    have hl: ∃A cap,ι k= .slice A xs.length cap:=by
     rcases hown.2 with ⟨hn,hz⟩|⟨g,cap,cur,hiv,_⟩
     ·exact ⟨none,0,by rw [hn,hz]⟩
     ·exact ⟨_,_,hiv⟩
    obtain ⟨A,cap,hl⟩:=hl
    rw [hl] at hv
    obtain ⟨et',he'⟩:=Option.isSome_iff_exists.1 hs
    exact qbg.pure hT (by simp [execOp,ho,resolve,invoke,builtin,Builtin.len_,hv,goInt,underlying,qbJ he']) (.d (.v rfl))
   ·simp at h
  ·simp at h
 ·simp at h
end
end Go.Nv
end
section
namespace Go.Nv
open Go.RowKit
section
variable {P:Program} {old bs:Nat->Prop} {W:World} {ι:Nat->Value} {τ:Nat->B} {ρ:Operand->Value} {σ:Operand->S} {o:Oper} {k0:Nat} {mu:Bool} {e:Eff}
theorem TOk.rowTo(hT:TOk W old bs ι τ)(hN:qbO old W){k v v2:Nat}{e:TypeId}{size bytes:Nat}{xs ys:List D}{W':World}{v':Value}{us:List Value}(hk:τ k= .row v e size bytes xs)(hv2:v<=v2)(hveq:v=v2->v'=ι k)
  (hg:W.grownBy W' (ι k).ownBlock) (hblk:v'.ownBlock=(ι k).ownBlock\/v'.ownBlock=some W.heap.size) (hown:W'.ownsRow 0 e size v' ys.length us)
  (hd: ∀ok',(∀b,okT bs τ ι b->b<W.heap.size->ok' b)->qaM W' ok' (flat ys) us) (h1: ∀(i:Nat) (u:Value),us[i]? =some u->u.oneCell'=true):
  qax old bs W ι τ W' (at_ ι k v') (at_ τ k (.row v2 e size bytes ys)):=by
 have he:=hT.ent k
 rw [hk] at he
 obtain ⟨us0,hown0,_,_,hnew⟩:=he
 have hb0:=qcJ _ _ hown0
 have hb1:=qcJ _ _ hown
 refine hT.upd hN k _ _ hg (fun b hb=> ?_) (fun b _ hb=> ?_) (fun c hc=> ?_) (fun hkeep hok hv=> ?_)
 ·rw [hk];exact ⟨rfl,by rw [hb0];exact hb⟩
 ·rw [hb1] at hb
  rcases hblk with h|h
  ·right;rw [hk];exact ⟨rfl,by rw [hb0, <-h];exact hb⟩
  ·left;rw [h] at hb;simp at hb;omega
 ·rw [hk] at hc;simp [B.ver] at hc;subst hc
  exact ⟨some v2,rfl,fun m' e=>by simp at e;subst e;exact ⟨v,rfl,hv2,hveq⟩⟩
 ·refine ⟨us,by rw [qam];exact hown,hd _ hok,h1,fun b hb ho=> ?_⟩
  rw [qam,hb1] at hb
  rcases hblk with h|h
  ·exact hnew b (by rw [hb0, <-h];exact hb) ho
  ·rw [h] at hb;simp at hb;have:=hN b ho;omega
theorem qpO(hT:TOk W old bs ι τ)(hN:qbO old W){args:Array Operand}{ts:Array TypeId}(ho:o.op= .call {callee:= .builtin .append,args:=args,argTypes:=ts})(hx: ∀x,qaG W ι (qap τ) (okT bs τ ι) (σ x) (ρ x))
  (h:opA P k0 mu σ τ o.type (.call {callee:= .builtin .append,args:=args,argTypes:=ts})=some e) (hs:e.side):qbg P old bs W ι τ o ρ e.val e.upd:=by
 simp only [opA] at h
 split at h
 ·rename_i s x t t' hargs hts
  have ha:args= #[s,x] :=by cases args;simp_all
  have hb:ts= #[t,t'] :=by cases ts;simp_all
  subst ha;subst hb
  split at h
  ·rename_i k ver ys ee h1 h2 h3
   have hsd:=hx s
   have hxd:=hx x
   rw [h1] at hsd;rw [h2] at hxd
   have ht:=qbJ h3
   split at h
   ·rename_i v e' size bytes xs hk
    split at h
    ·rename_i hc
     obtain ⟨rfl,rfl,rfl⟩:=hc
     simp at h;subst h
     obtain ⟨⟨i,z,hi,hz,hsize,hby,hzs⟩,h0,hux,huy,hmax,hbytes⟩:=hs
     have hv:=qcw hsd (qbl hk)
     have he:=hT.ent k
     rw [hk] at he
     obtain ⟨us,hown,hd,h1u,hnew⟩:=he
     obtain ⟨A,cap,hxv,hcap,hcm,hAn,hrow⟩:=qu7 hxd
     have hfy:=qbi huy
     have key: ∃v' W' vs,(execOp ρ o).run P W= .ok (.value v') W'/\W'.ownsRow 0 ee size v' (xs.length+ys.length) (us++vs)/\W.grownBy W' (ι k).ownBlock/\(v'.ownBlock=(ι k).ownBlock\/v'.ownBlock=some W.heap.size)/\
       qaM W (okT bs τ ι) (flat ys) vs/\ ∀(i:Nat) (u:Value),vs[i]? =some u->u.oneCell'=true:=by
      cases A with
      |none=>
       have hc0:=hAn rfl
       subst hc0
       have hy0:ys= [] :=List.eq_nil_of_length_eq_zero (by omega)
       subst hy0
       have hrun:=run_append_owned_none (P:=P) (w:=W) 0 t o.type ee i size ht hi (ι k) xs.length us hown
       refine ⟨ι k,W, [], ?_,by simpa using hown,⟨rfl,rfl,rfl,Nat.le_refl _,fun _ _ _=>rfl⟩,.inl rfl,qaM.nil _ _,by simp⟩
       simp at hxv
       simp [execOp,ho,resolve,invoke,builtin,hv,hxv,hrun,Result.andThen]
      |some ad=>
       obtain ⟨vs,hvs,hcells,hd2,h12⟩: ∃vs:List Value,vs.length=ys.length*size/\(∀j u,vs[j]? =some u->W.cell? (ad.add j)=some u)/\qaM W (okT bs τ ι) (flat ys) vs/\ ∀(i:Nat) (u:Value),vs[i]? =some u->u.oneCell'=true:=by
        by_cases hne:flat ys= []
        ·refine ⟨[], ?_,by simp,by rw [hne];exact qaM.nil _ _,by simp⟩
         rw [<-hfy,hne];rfl
        ·obtain ⟨b,off,vs,hA,_,_,hc,hd2,h12⟩:=hrow hne
         simp at hA;subst hA
         exact ⟨vs,by rw [hd2.1,hfy],fun j u hu=>by rw [qbz];exact hc j u hu,hd2,h12⟩
       obtain ⟨v',W',hr,g1,g2,_,g4⟩:=run_append_own_at (P:=P) W 0 t o.type ee i z size bytes ht hi hz hsize hby hzs h0 (ι k) xs.length us hown ad ys.length cap vs hvs hcells
        (fun u hu=>by obtain ⟨j,hj⟩:=List.getElem?_of_mem hu;exact h12 j u hj) hmax hbytes (Nat.zero_le _)
       refine ⟨v',W',vs, ?_,g1,g2,g4,hd2,h12⟩
       simp [execOp,ho,resolve,invoke,builtin,hv,hxv,hr,Result.andThen]
     obtain ⟨v',W',vs,hr,g1,g2,g3,g4,g5⟩:=key
     have hkeep: ∀b,okT bs τ ι b->b<W.heap.size->W'.heap[b]? =W.heap[b]? :=fun b hb hl=>g2.block b hl fun ee'=>by
      refine hb.2 k (by rw [hk];rfl) ?_
      rw [qcJ _ _ hown, <-ee']
     have hst:=hT.rowTo hN (v2:=ver+1) (ys:=xs++ys) (bytes:=bytes) hk (by omega) (fun h=>absurd h (by omega)) g2 g3 (by simpa using g1)
      (fun ok' hok'=>by rw [qih];exact (hd.append g4).keep hkeep hok') (qcD h1u g5)
     refine ⟨v',W',at_ ι k v',.inl hr,hst, ?_⟩
     refine .own (qaQ ?_) fun _=>by show v'=at_ ι k v' k;rw [qam]
     show qap (at_ τ k _) k=_;simp [qap,qam,B.ver]
    ·simp at h
   ·simp at h
  ·simp at h
 ·simp at h
theorem qoR(hT:TOk W old bs ι τ){src dst:TypeId}{x:Operand}(ho:o.op= .convert src dst x)(hx:qaG W ι (qap τ) (okT bs τ ι) (σ x) (ρ x))
  (h:opA P k0 mu σ τ o.type (.convert src dst x)=some e) (hs:e.side):qbg P old bs W ι τ o ρ e.val e.upd:=by
 simp only [opA] at h
 split at h
 ·rename_i kk n h1
  split at h
  ·rename_i k hk
   simp at h;subst h
   rw [h1] at hx
   obtain ⟨d,hd⟩:=Option.isSome_iff_exists.1 hs.1
   have hdst:P.underlying dst=some (.int k):=by
    unfold qds at hk;split at hk
    ·rename_i h4;simp at hk;subst hk;exact h4
    ·simp at hk
   exact qbg.pure hT (by simp [execOp,ho,convert,underlying,hd,hdst,(qdg hx).1,Conv.intToInt, <-qeF _ _ hs.2]) (.d (.v rfl))
  ·simp at h
 ·simp at h
theorem qkO{lo:Option Operand}{d n:Int}(h:qff σ lo d=some n)(hx: ∀x,qaG W ι (qap τ) (okT bs τ ι) (σ x) (ρ x)):(lo=none/\n=d)\/ ∃x k,lo=some x/\ρ x= .int k n:=by
 cases lo with
 |none=>simp [qff] at h;exact .inl ⟨rfl,h.symm⟩
 |some x=>
  simp only [qff] at h
  split at h
  ·rename_i k m hm
   simp at h;subst h
   have:=hx x
   rw [hm] at this
   exact .inr ⟨x,k,rfl,(qdg this).1⟩
  ·simp at h
theorem qgk{isSlice:Bool}{len cap:Nat}{lo hi:Option Operand}{l h:Int}(hl:qff σ lo 0=some l)(hh:qff σ hi len=some h)(hx: ∀x,qaG W ι (qap τ) (okT bs τ ι) (σ x) (ρ x))(h0:0<=l)(h1:l<=h)(h2:h<=len)(h3:len<=cap):
  (Instr.sliceBounds isSlice len cap (lo.map ρ) (hi.map ρ) none).run P W= .ok (l.toNat,h.toNat,cap) W:=by
 have hb: ∀(k:IntKind) (n:Int) (y:Nat) (code:BoundsCode),0<=n->n<=y->(Instr.sliceBound (.int k n) y code).run P W= .ok n.toNat W:=by
  intro k n y code g0 g1
  simp [Instr.sliceBound,asIntOf,g0,g1]
 unfold Instr.sliceBounds
 rcases qkO hl hx with ⟨rfl,rfl⟩|⟨x,k,rfl,hxv⟩<;>rcases qkO hh hx with ⟨rfl,rfl⟩|⟨y,k',rfl,hyv⟩
 ·simp
 ·simp [hyv,hb k' h cap _ (by omega) (by omega)]
 ·simp [hxv,hb k l len _ (by omega) (by omega)]
 ·have e:((h.toNat:Nat):Int)=h:=Int.toNat_of_nonneg (by omega)
  simp [hxv,hyv,hb k' h cap _ (by omega) (by omega),hb k l h.toNat _ (by omega) (by omega)]
theorem qmR(hT:TOk W old bs ι τ){xt:TypeId}{x:Operand}{lo hi:Option Operand}(ho:o.op= .slice xt x lo hi none)(hx: ∀x,qaG W ι (qap τ) (okT bs τ ι) (σ x) (ρ x))
  (h:opA P k0 mu σ τ o.type (.slice xt x lo hi none)=some e) (hs:e.side):qbg P old bs W ι τ o ρ e.val e.upd:=by
 have hxx:=hx x
 simp only [opA] at h
 split at h
 ·rename_i s h1
  split at h
  ·rename_i l hh hl hhh
   simp at h;subst h
   obtain ⟨g0,g1,g2,ht⟩:=hs
   rw [h1] at hxx
   have hv:=(qdg hxx).1
   have hb:=qgk (P:=P) (isSlice:=false) (cap:=s.size) hl hhh hx g0 g1 g2 (Nat.le_refl _)
   exact qbg.pure hT (by simp [execOp,ho,Instr.sliceAt,Instr.slice,underlying,ht,hv,hb]) (.d (.v rfl))
  ·simp at h
 ·rename_i xs h1
  split at h
  ·rename_i l hh ee hl hhh hee
   simp at h;subst h
   obtain ⟨g0,g1,g2,hu,hpos⟩:=hs
   rw [h1] at hxx
   obtain ⟨A,cap,hv,hcap,hcm,hAn,hrow⟩:=qu7 hxx
   have ht:=qbJ hee
   have hb:=qgk (P:=P) (isSlice:=true) (cap:=cap) hl hhh hx g0 g1 g2 hcap
   have hr:(execOp ρ o).run P W= .ok (.value (.slice (if cap=l.toNat then A else A.map (·.add (l.toNat*P.cellsOf ee))) (hh.toNat-l.toNat) (cap-l.toNat))) W:=by
    simp [execOp,ho,Instr.sliceAt,Instr.slice,underlying,ht,hv,hb,qbb (Nat.ne_of_gt hpos)]
   refine qbg.pure hT hr ?_
   simp only [qcu]
   have hlen:((xs.take hh.toNat).drop l.toNat).length=hh.toNat-l.toNat:=by simp;omega
   by_cases hz:hh.toNat-l.toNat=0
   ·have e0:(xs.take hh.toNat).drop l.toNat= [] :=List.eq_nil_of_length_eq_zero (by omega)
    rw [e0,hz]
    refine .d (.l0 (by omega) fun hn=> ?_)
    split at hn
    ·omega
    ·have:=hAn (by simpa using hn);omega
   ·rw [<-hlen]
    have hne:flat xs≠ [] :=by
     intro hn
     have h2:=qbi hu
     rw [hn] at h2
     have:0<xs.length*P.cellsOf ee:=Nat.mul_pos (by omega) hpos
     simp at h2;omega
    obtain ⟨b,off,us,rfl,hne',hok,hc,hd,h1'⟩:=hrow hne
    rw [if_neg (by omega)]
    simp only [Option.map_some,qbz]
    have hut:Uni (P.cellsOf ee) (xs.take hh.toNat):=fun y hy=>hu y (List.mem_of_mem_take hy)
    have e1:flat ((xs.take hh.toNat).drop l.toNat)=((flat xs).take (hh.toNat*P.cellsOf ee)).drop (l.toNat*P.cellsOf ee):=by rw [qeh hut,qfV hu]
    have e2:=(hd.take (hh.toNat*P.cellsOf ee)).drop (l.toNat*P.cellsOf ee)
    rw [<-e1] at e2
    have hfl:=qbi (size:=P.cellsOf ee) (xs:=(xs.take hh.toNat).drop l.toNat) (fun y hy=>hut y (List.mem_of_mem_drop hy))
    refine .d (.l ?_ e2.1 hok ?_ e2.2 ?_ (by omega) (by omega))
    ·intro hn
     have:=e2.1
     rw [hn,hfl,hlen] at this
     have:0<(hh.toNat-l.toNat)*P.cellsOf ee:=Nat.mul_pos (by omega) hpos
     simp at*;omega
    ·intro i u hu'
     rw [List.getElem?_drop,List.getElem?_take] at hu'
     split at hu'
     ·have:=hc _ _ hu'
      rwa [show off+(l.toNat*P.cellsOf ee+i)=off+l.toNat*P.cellsOf ee+i from by omega] at this
     ·simp at hu'
    ·exact qf0 h1' fun u hu'=>List.mem_of_mem_take (List.mem_of_mem_drop hu')
  ·simp at h
 ·simp at h
end
end Go.Nv
end
section
namespace Go.Nv
open Go.RowKit
section
variable {P:Program} {old bs:Nat->Prop} {W:World} {ι:Nat->Value} {τ:Nat->B} {ρ:Operand->Value} {σ:Operand->S} {o:Oper} {k0:Nat} {mu:Bool} {e:Eff}
theorem qsy{ok:Nat->Prop}{ds:List D}: ∀{us:List Value},qaM W ok ds us->qaM W ok (flat ds) (us.flatMap fun v=>v.cells.toList)/\(∀(i:Nat) (u:Value),(us.flatMap fun v=>v.cells.toList)[i]? =some u->u.oneCell'=true)/\
  ∀{size:Nat},Uni size ds-> ∀v∈us,v.cells.size=size:=by
 induction ds with
 |nil=>intro us h;rw [h.nil_inv];exact ⟨qaM.nil _ _,by simp,by simp⟩
 |cons d ds ih=>
  intro us h
  obtain ⟨u,us',rfl,h1,h2⟩:=h.cons_inv
  obtain ⟨g1,g2,g3⟩:=ih h2
  obtain ⟨c1,c2⟩:=h1.cellsL
  refine ⟨?_, ?_, ?_⟩
  ·have:=c1.append g1
   simpa [flat] using this
  ·rw [List.flatMap_cons]
   exact qcD (fun i u hu=>c2 u (List.mem_of_getElem? hu)) g2
  ·intro size hu v hv
   rcases List.mem_cons.1 hv with rfl|hv
   ·have h3:=hu d (List.mem_cons_self ..)
    have:=c1.1
    rw [h3] at this
    simpa using this
   ·exact g3 (fun y hy=>hu y (List.mem_cons_of_mem _ hy)) v hv
theorem qqa{parts:List (Nat×Operand)}{n:Nat}(h:parts.map (·.1)=List.range n)(ρ:Operand->Value):
  parts.map (fun x=>(x.1,ρ x.2))=((parts.map fun x=>ρ x.2).zipIdx 0).map fun x=>(x.2,x.1):=by
 apply List.ext_getElem?
 intro i
 have hi:(parts.map (·.1))[i]? =(List.range n)[i]? :=by rw [h]
 rw [List.getElem?_map] at hi
 simp only [List.getElem?_map,List.getElem?_zipIdx]
 cases hp:parts[i]? with
 |none=>simp
 |some p=>
  rw [hp] at hi
  simp at hi
  have:i<n/\i=p.1:=by
   rcases Nat.lt_or_ge i n with hlt|hge
   ·rw [List.getElem?_range hlt] at hi;simp at hi;exact ⟨hlt,hi.symm⟩
   ·rw [List.getElem?_eq_none (by simpa using hge)] at hi;simp at hi
  simp [this.2]
theorem qlc(off:Nat): ∀(vs:List Value) (k:Nat) (cs:Array Value),off+k+vs.length<=cs.size->
  ((vs.zipIdx k).foldl (fun (cs:Array Value) (x:Value×Nat)=>cs.setIfInBounds (off+x.2) x.1) cs).toList=cs.toList.take (off+k)++vs++cs.toList.drop (off+k+vs.length)
 | [],k,cs,h=>by simp
 |v::vs,k,cs,h=>by
  simp only [List.length_cons] at h
  rw [List.zipIdx_cons,List.foldl_cons,qlc off vs (k+1) _ (by simp;omega)]
  have hlt:off+k<cs.toList.length:=by simp;omega
  simp only [Array.toList_setIfInBounds]
  rw [show off+(k+1)=off+k+1 from by omega,show off+k+(v::vs).length=off+k+1+vs.length from by simp;omega]
  rw [List.take_set,List.drop_set_of_lt (by omega),List.take_succ_eq_append_getElem hlt]
  have e:(cs.toList.take (off+k)).length=off+k:=by simp;simp at hlt;omega
  have e2:(cs.toList.take (off+k)++ [cs.toList[off+k]]).set (off+k) v=cs.toList.take (off+k)++ [v] :=by
   rw [List.set_append_right _ _ (by rw [e];exact Nat.le_refl _),e,Nat.sub_self];rfl
  rw [e2]
  simp
theorem qf6(hT:TOk W old bs ι τ){pl:List (Nat×Nat)}{place:Nat->Option (Nat×Nat)}(hp: ∀(i:Nat) (p:Nat×Nat),pl[i]? =some p->place i=some p)(hx: ∀x,qaG W ι (qap τ) (okT bs τ ι) (σ x) (ρ x)):
  ∀(ps:List (Nat×Operand)) (cs cs':List S) (us:Array Value),(ps.all fun x=>okS (qap τ) (σ x.2))=true->qgx pl (ps.map fun x=>(x.1,σ x.2)) cs=some cs'->
   qao W ι (qap τ) (okT bs τ ι) cs us.toList->(∀u∈us.toList,u.oneCell'=true)->
   ∃us',Instr.fill place us (ps.map fun x=>(x.1,ρ x.2))=some us'/\qao W ι (qap τ) (okT bs τ ι) cs' us'.toList/\(∀u∈us'.toList,u.oneCell'=true)
 | [],cs,cs',us,_,hb,hd,h1=>by simp [qgx] at hb;subst hb;exact ⟨us,by simp [Instr.fill],hd,h1⟩
 |(i,x)::ps,cs,cs',us,hok,hb,hd,h1=>by
  simp only [List.all_cons,Bool.and_eq_true] at hok
  simp only [List.map_cons,qgx] at hb
  split at hb
  ·rename_i o n hpl
   split at hb
   ·rename_i hc
    obtain ⟨g1,g2⟩:=(hx x).cellsS hok.1 hT
    have hlen:(ρ x).cells.size=(σ x).cells.length:=by have:=g1.1;simpa using this
    have hus:us.size=cs.length:=by have:=hd.1;simpa using this
    have hf:=qlc o (ρ x).cells.toList 0 us (by simp;omega)
    have hres:qao W ι (qap τ) (okT bs τ ι) (splice cs o (σ x).cells) (us.toList.take o++(ρ x).cells.toList++us.toList.drop (o+(ρ x).cells.size)):=by
     rw [hlen];exact ((hd.take o).append g1).append (hd.drop _)
    have hone: ∀u∈us.toList.take o++(ρ x).cells.toList++us.toList.drop (o+(ρ x).cells.size),u.oneCell'=true:=by
     intro u hu
     simp only [List.mem_append] at hu
     rcases hu with (hu|hu)|hu
     ·exact h1 u (List.mem_of_mem_take hu)
     ·exact g2 u hu
     ·exact h1 u (List.mem_of_mem_drop hu)
    have e:((ρ x).cells.zipIdx.foldl (fun (cs:Array Value) (x:Value×Nat)=>cs.setIfInBounds (o+x.2) x.1) us).toList=us.toList.take o++(ρ x).cells.toList++us.toList.drop (o+(ρ x).cells.size):=by
     rw [<-Array.foldl_toList,Array.toList_zipIdx];simpa using hf
    obtain ⟨us',f1,f2,f3⟩:=qf6 hT hp hx ps _ cs' ((ρ x).cells.zipIdx.foldl (fun (cs:Array Value) (x:Value×Nat)=>cs.setIfInBounds (o+x.2) x.1) us) hok.2 hb (by rw [e];exact hres) (by rw [e];exact hone)
    refine ⟨us', ?_,f2,f3⟩
    rw [List.map_cons,Instr.fill,hp _ _ hpl]
    simp only
    rw [if_neg (by simp;omega)]
    exact f1
   ·simp at hb
  ·simp at hb
theorem qr5(hT:TOk W old bs ι τ){t:TypeId}{parts:Array (Nat×Operand)}(ho:o.op= .build t parts)(hx: ∀x,qaG W ι (qap τ) (okT bs τ ι) (σ x) (ρ x))
  (h:opA P k0 mu σ τ o.type (.build t parts)=some e) (hs:e.side):qbg P old bs W ι τ o ρ e.val e.upd:=by
 simp only [opA] at h
 split at h
 ·rename_i pl zs hpl hzs
  obtain ⟨cs,hb,rfl⟩: ∃cs,qgx pl (parts.toList.map fun x=>(x.1,σ x.2)) (zs.map .d)=some cs/\({val:=qor cs,side:=(parts.toList.all fun x=>okS (qap τ) (σ x.2))=true}:Eff)=e:=Option.map_eq_some_iff.1 h
  unfold zeroCells at hzs
  split at hzs
  ·rename_i z hzz
   obtain ⟨it,hit,hz1⟩: ∃i,P.info? t=some i/\i.zero=some z:=by simpa [Option.bind_eq_some_iff] using hzz
   obtain ⟨h1,h2⟩:=qhT (W:=W) hzs (okT bs τ ι)
   have key: ∃us',P.built t (parts.toList.map fun x=>(x.1,ρ x.2))=some us'/\qao W ι (qap τ) (okT bs τ ι) cs us'.toList/\(∀u∈us'.toList,u.oneCell'=true):=by
    unfold plcs at hpl
    unfold Program.built
    rw [hit] at hpl ⊢
    cases hu:P.underlying t with
    |none=>rw [hu] at hpl;simp at hpl
    |some d=>
     rw [hu] at hpl
     cases d<;>try (simp at hpl;done)
     case array n ee=>
      simp only [hz1] at hpl ⊢
      cases hie:P.info? ee with
      |none=>rw [hie] at hpl;simp at hpl
      |some ie=>
       rw [hie] at hpl
       simp at hpl;subst hpl
       refine qf6 hT ?_ hx parts.toList _ cs z.cells hs hb (qao.ofDen h1) h2
       intro i p hi
       rw [List.getElem?_map] at hi
       cases hr:(List.range n)[i]? with
       |none=>simp [hr] at hi
       |some j=>
        have:j=i:=by
         rw [List.getElem?_eq_some_iff] at hr
         obtain ⟨hl,hr⟩:=hr
         simpa using hr.symm
        subst this
        simp [hr] at hi;exact congrArg some hi
     case struct fields=>
      simp only [hz1] at hpl ⊢
      cases hm:fields.toList.mapM (fun f=>(P.info? f.type).map fun i=>(f.offset,i.size)) with
      |none=>rw [hm] at hpl;simp at hpl
      |some places=>
       rw [hm] at hpl
       simp at hpl;subst hpl
       exact qf6 hT (fun i p hi=>by simpa using hi) hx parts.toList _ cs z.cells hs hb (qao.ofDen h1) h2
   obtain ⟨us',k1,k2,k3⟩:=key
   refine qbg.pure hT (v:= .agg us') ?_ ?_
   ·have hrun:=run_build W t (parts.map fun (i,x)=>(i,ρ x)) us' (by simpa using k1)
    simp [execOp,ho,hrun]
   ·have:=qaG.ofAgg k2 fun i u hu=>k3 u (List.mem_of_getElem? hu)
    simpa using this
  ·simp at hzs
 ·simp at h
theorem qAl(hT:TOk W old bs ι τ){args:Array Operand}{ts:Array TypeId}(ho:o.op= .call {callee:= .builtin .max,args:=args,argTypes:=ts})(hx: ∀x,qaG W ι (qap τ) (okT bs τ ι) (σ x) (ρ x))
  (h:opA P k0 mu σ τ o.type (.call {callee:= .builtin .max,args:=args,argTypes:=ts})=some e) (hs:e.side):qbg P old bs W ι τ o ρ e.val e.upd:=by
 simp only [opA] at h
 split at h
 ·rename_i x y hargs
  split at h
  ·rename_i k a k' b ha hb
   simp at h;subst h
   obtain rfl:k=k':=hs
   have ha':=(qdg (ha▸hx x)).1
   have hb':=(qdg (hb▸hx y)).1
   have hg:args= #[x,y] :=by cases args;simp_all
   subst hg
   refine qbg.pure hT (v:= .int k (if a<b then b else a)) ?_ (.d (.v rfl))
   simp [execOp,ho,resolve,invoke,ha',hb',builtin,Builtin.max_,Builtin.max2]
   try (split<;>rfl)
  ·simp at h
 ·rename_i x y z hargs
  split at h
  ·rename_i k a k1 b k2 c ha hb hc
   simp at h;subst h
   obtain ⟨rfl,rfl⟩:k=k1/\k=k2:=hs
   have ha':=(qdg (ha▸hx x)).1
   have hb':=(qdg (hb▸hx y)).1
   have hc':=(qdg (hc▸hx z)).1
   have hg:args= #[x,y,z] :=by cases args;simp_all
   subst hg
   refine qbg.pure hT (v:= .int k (mx3 a b c)) ?_ (.d (.v rfl))
   have e: ∀p q:Int,Builtin.max2 (.int k p) (.int k q)=pure (.int k (mx p q)):=fun p q=>rfl
   simp [execOp,ho,resolve,invoke,ha',hb',hc',builtin,Builtin.max_,e,mx3]
  ·simp at h
 ·rename_i x y z u hargs
  split at h
  ·rename_i k a k1 b k2 c k3 f ha hb hc hf
   simp at h;subst h
   obtain ⟨rfl,rfl,rfl⟩:k=k1/\k=k2/\k=k3:=hs
   have ha':=(qdg (ha▸hx x)).1
   have hb':=(qdg (hb▸hx y)).1
   have hc':=(qdg (hc▸hx z)).1
   have hf':=(qdg (hf▸hx u)).1
   have hg:args= #[x,y,z,u] :=by cases args;simp_all
   subst hg
   refine qbg.pure hT (v:= .int k (mx4 a b c f)) ?_ (.d (.v rfl))
   have e: ∀p q:Int,Builtin.max2 (.int k p) (.int k q)=pure (.int k (mx p q)):=fun p q=>rfl
   simp [execOp,ho,resolve,invoke,ha',hb',hc',hf',builtin,Builtin.max_,e,mx4]
  ·simp at h
 ·simp at h
theorem qjx(hT:TOk W old bs ι τ)(hN:qbO old W)(hk0:τ k0= .gone){t:TypeId}{n:Nat}{parts:Array (Nat×Operand)}(ho:o.op= .buildSlice t n parts)(hx: ∀x,qaG W ι (qap τ) (okT bs τ ι) (σ x) (ρ x))
  (h:opA P k0 mu σ τ o.type (.buildSlice t n parts)=some e) (hs:e.side):qbg P old bs W ι τ o ρ e.val e.upd:=by
 simp only [opA] at h
 split at h
 ·rename_i ee ds h1 h2
  split at h
  ·rename_i hc
   simp at h;subst h
   obtain ⟨⟨i,z,hi,hz,hsize,hby,hzs⟩,h0,hu,hsm⟩:=hs
   have ht:=qbJ h1
   have hsd:qao W ι (qap τ) (okT bs τ ι) ((parts.toList.map (·.2)).map σ) ((parts.toList.map (·.2)).map ρ):=by
    refine ⟨by simp,fun j c u hc hu=> ?_⟩
    rw [List.getElem?_map] at hc hu
    cases hq:(parts.toList.map (·.2))[j]? with
    |none=>simp [hq] at hc
    |some q=>simp [hq] at hc hu;subst hc;subst hu;exact hx q
   rw [qbQ h2] at hsd
   have hd:=hsd.inv
   have hlen:((parts.toList.map (·.2)).map ρ).length=n:=by
    have:=congrArg List.length hc
    simpa using this
   have hdl:ds.length=n:=by rw [<-hd.1];exact hlen
   obtain ⟨g1,g2,g3⟩:=qsy hd
   have g3:=g3 hu
   have hfill:=Great.fill_whole h0 ((parts.toList.map (·.2)).map ρ) ((Array.range (n*i.size)).map (z.cells[· %z.cells.size]!)) g3 (by rw [hlen,hsize];simp)
   have hrun:(Instr.buildSlice t n (parts.map fun (i,x)=>(i,ρ x))).run P W= .ok (.slice (some ⟨W.heap.size,0,none⟩) n n) (W.alloc (.cells (((parts.toList.map (·.2)).map ρ).flatMap fun v=>v.cells.toList).toArray ee)):=by
    by_cases hn:0<n
    case neg=>
     have hn0:n=0:=by omega
     subst hn0
     have hp:parts= #[] :=by
      have:parts.toList= [] :=by simpa using hc
      cases parts;simp_all
     subst hp
     simp [Instr.buildSlice,run_underlying ht,sizeOf,typeInfo,hi,newRow,Instr.fill]
     have:Array.range 0= #[] :=by simp [Array.range]
     rw [this,Array.map_empty]
    refine run_buildSlice W t ee n _ _ i z ht hi hz (by rw [hsize];omega) (by rw [hsize];have:=Nat.mul_pos hn h0;omega) ?_
    rw [hsize]
    rw [hsize] at hfill
    rw [<-hfill]
    congr 1
    have:=qqa (parts:=parts.toList) hc ρ
    simpa [List.map_map,Function.comp_def] using this
   have hfl:=qbi hu
   have hne:0<n->(((parts.toList.map (·.2)).map ρ).flatMap fun v=>v.cells.toList)≠ [] :=by
    intro hn hn'
    have:=g1.1
    rw [hn',hfl,hdl] at this
    have:=Nat.mul_pos hn h0
    simp at*;omega
   have hnm:n<=maxLen:=by unfold maxLen;have:=Nat.mul_le_mul_left n h0;omega
   generalize hus:(((parts.toList.map (·.2)).map ρ).flatMap fun v=>v.cells.toList)=us at*
   have hblk:(W.alloc (.cells us.toArray ee)).heap[W.heap.size]? =some (.cells us.toArray ee (0,0)):=heap_alloc_new W _
   cases mu with
   |false=>
    have hst:=hT.quiet hN (World.grownBy_alloc W (.cells us.toArray ee) none)
    refine ⟨.slice (some ⟨W.heap.size,0,none⟩) n n,W.alloc (.cells us.toArray ee),ι,.inl (by simp [execOp,ho,hrun]),hst, ?_⟩
    ·have hok:okT bs τ ι W.heap.size:=⟨hT.bsn _ (fun ho=>absurd (hN _ ho) (by omega)),fun k hl hb=>absurd (hT.blk_new hl hb).2 (by omega)⟩
     have g1':=hst.denL g1
     by_cases hn:0<n
     ·rw [<-hdl]
      exact .d (.l (hne hn) g1'.1 hok (by simp) g1'.2 g2 (Nat.le_refl _) (by omega))
     ·have hn0:n=0:=by omega
      have hd0:ds= [] :=List.eq_nil_of_length_eq_zero (by omega)
      subst hn0
      rw [hd0]
      exact .d (.l0 (by omega) (fun h=>rfl))
   |true=>
    refine ⟨.slice (some ⟨W.heap.size,0,none⟩) n n,W.alloc (.cells us.toArray ee),at_ ι k0 (.slice (some ⟨W.heap.size,0,none⟩) n n),.inl (by simp [execOp,ho,hrun]), ?_, ?_⟩
    ·refine hT.upd hN k0 _ _ (row:=none) (World.grownBy_alloc W _ none) (by simp) (by simp [blk]) (by intro c hc;rw [hk0] at hc;simp [B.ver] at hc) fun hkeep hok hv=> ?_
     refine ⟨us, ?_,g1.keep hkeep hok,g2, ?_⟩
     ·rw [qam,hdl]
      refine ⟨by rw [g1.1,hfl,hdl],.inr ⟨W.heap.size,n,us.toArray,rfl,Nat.zero_le _,hblk,Nat.le_refl _,hnm,by simp [g1.1,hfl,hdl], ?_⟩⟩
      have:us.length=n*P.cellsOf ee:=by rw [g1.1,hfl,hdl]
      simp [<-this]
     ·rw [qam];intro b hb ho';simp [blk] at hb;subst hb;exact absurd (hN _ ho') (by omega)
    ·refine .own (qaQ ?_) fun _=>by show _=at_ ι k0 _ k0;rw [qam]
     show qap (at_ τ k0 _) k0=_;simp [qap,qam,B.ver]
  ·simp at h
 ·simp at h
theorem qmT{ok:Nat->Prop}{d:D}{us:List Value}(h:qaM W ok d.cells us): ∀n:Nat,qaM W ok (flat (List.replicate n d)) (List.replicate n us).flatten
 |0=>qaM.nil _ _
 |n+1=>by
  rw [List.replicate_succ,List.replicate_succ]
  have:=h.append (qmT h n)
  simpa [flat] using this
theorem qv0(z:Array Value)(hz:0<z.size)(n:Nat):(madeCells z (n*z.size)).toList=(List.replicate n z.toList).flatten:=by
 have key: ∀n:Nat,(List.range (n*z.size)).map (fun i=>z[i%z.size]!)=(List.replicate n z.toList).flatten:=by
  intro n
  induction n with
  |zero=>simp
  |succ n ih=>
   rw [Nat.add_mul,Nat.one_mul,List.range_add,List.map_append,ih,List.replicate_succ',List.flatten_append,List.map_map]
   congr 1
   simp only [List.flatten_cons,List.flatten_nil,List.append_nil]
   apply List.ext_getElem?
   intro i
   rw [List.getElem?_map]
   rcases Nat.lt_or_ge i z.size with h|h
   ·rw [List.getElem?_range h]
    simp [Nat.mod_eq_of_lt h,Array.getElem?_eq_getElem h,h]
   ·rw [List.getElem?_eq_none (by simpa using h),List.getElem?_eq_none (by simpa using h)];rfl
 rw [<-key n]
 simp [madeCells]
theorem qkc(hT:TOk W old bs ι τ)(hN:qbO old W)(hk0:τ k0= .gone){t:TypeId}{l c:Operand}(ho:o.op= .makeSlice t l c)(hx: ∀x,qaG W ι (qap τ) (okT bs τ ι) (σ x) (ρ x))
  (h:opA P k0 mu σ τ o.type (.makeSlice t l c)=some e) (hs:e.side):qbg P old bs W ι τ o ρ e.val e.upd:=by
 simp only [opA] at h
 split at h
 ·rename_i ee kl n kc m h1 h2 h3
  split at h
  ·rename_i zs hz
   simp at h;subst h
   obtain ⟨⟨i,z,hi,hzz,hsize,hby,hzs⟩,h0,hone,g0,g1,g2,g3⟩:=hs
   have ht:=qbJ h1
   have hl:=hx l
   have hc:=hx c
   rw [h2] at hl;rw [h3] at hc
   have hl:=(qdg hl).1
   have hc:=(qdg hc).1
   unfold zeroCells at hz
   rw [hi] at hz
   simp only [Option.bind_some,hzz] at hz
   obtain ⟨z1,z2⟩:=qhT (W:=W) hz (okT bs τ ι)
   have hzl:zs.length=P.cellsOf ee:=by rw [<-z1.1];simpa using hzs
   have hrun:=run_make (P:=P) (w:=W) t ee i z ht hi hzz kl kc n m g0 g1 (by rw [hby];exact g3) (by unfold maxLen at g2;omega)
   have hmc:(madeCells z.cells (m.toNat*i.size)).toList=(List.replicate m.toNat z.cells.toList).flatten:=by
    rw [hsize, <-hzs];exact qv0 z.cells (by omega) m.toNat
   generalize hdd:(if qaE P ee=true then D.a zs else zs.head?.getD (.v undef))=dz
   have hdc:dz.cells=zs:=by
    rw [<-hdd]
    split
    ·rfl
    ·rename_i ha
     have:=hone (by simpa using ha)
     match zs,this with
     | [x],_=>
      obtain ⟨u,us,hu,h5,_⟩:=z1.cons_inv
      have:=z2 u (by rw [hu];simp)
      exact h5.notAgg this
   have hden: ∀k:Nat,qaM W (okT bs τ ι) (flat (List.replicate k dz)) (List.replicate k z.cells.toList).flatten:=fun k=>qmT (by rw [hdc];exact z1) k
   have h1u: ∀(i:Nat) (u:Value),(List.replicate n.toNat z.cells.toList).flatten[i]? =some u->u.oneCell'=true:=by
    intro i u hu
    have:=List.mem_of_getElem? hu
    rw [List.mem_flatten] at this
    obtain ⟨l,hl1,hl2⟩:=this
    exact z2 u (by rw [List.mem_replicate] at hl1;rw [<-hl1.2];exact hl2)
   have hblk:(W.alloc (.cells (madeCells z.cells (m.toNat*i.size)) ee)).heap[W.heap.size]? =some (.cells (madeCells z.cells (m.toNat*i.size)) ee (0,0)):=heap_alloc_new W _
   have hfl: ∀k:Nat,(List.replicate k z.cells.toList).flatten.length=k*P.cellsOf ee:=by
    intro k
    rw [(hden k).1,qbi (size:=P.cellsOf ee) (fun y hy=>by rw [List.mem_replicate] at hy;rw [hy.2,hdc,hzl])]
    simp
   refine ⟨_,_,at_ ι k0 (.slice (some ⟨W.heap.size,0,none⟩) n.toNat m.toNat),.inl (by simp [execOp,ho,hl,hc,hrun];exact ⟨rfl,rfl⟩), ?_, ?_⟩
   ·refine hT.upd hN k0 _ _ (row:=none) (World.grownBy_alloc W _ none) (by simp) (by simp [blk]) (by intro c hc;rw [hk0] at hc;simp [B.ver] at hc) fun hkeep hok hv=> ?_
    refine ⟨(List.replicate n.toNat z.cells.toList).flatten, ?_,(hden n.toNat).keep hkeep hok,h1u, ?_⟩
    ·rw [qam]
     have hle:n.toNat*P.cellsOf ee<=m.toNat*P.cellsOf ee:=Nat.mul_le_mul_right _ (by omega)
     refine ⟨by rw [hfl];simp,.inr ⟨W.heap.size,m.toNat,_,by simp,Nat.zero_le _,hblk,by simp;omega,by omega,by simp [size_madeCells,hsize], ?_⟩⟩
     rw [hmc]
     have e:m.toNat=n.toNat+(m.toNat-n.toNat):=by omega
     rw [e, <-List.replicate_append_replicate,List.flatten_append,List.length_replicate, <-hfl n.toNat,List.take_left]
    ·rw [qam];intro b hb ho';simp [blk] at hb;subst hb;exact absurd (hN _ ho') (by omega)
   ·refine .own (qaQ ?_) fun _=>by show _=at_ ι k0 _ k0;rw [qam]
    show qap (at_ τ k0 _) k0=_;simp [qap,qam,B.ver]
  ·simp at h
 ·simp at h
end
end Go.Nv
end
section
namespace Go.Nv
open Go.RowKit
section
variable {P:Program} {old bs:Nat->Prop} {W:World} {ι:Nat->Value} {τ:Nat->B} {ρ:Operand->Value} {σ:Operand->S} {o:Oper} {k0:Nat} {mu:Bool} {e:Eff}
theorem qqx(hT:TOk W old bs ι τ)(hN:qbO old W)(hk0:τ k0= .gone)(hx: ∀x,qaG W ι (qap τ) (okT bs τ ι) (σ x) (ρ x))(hcon: ∀v,ρ (.const v)=v)
  (h:opA P k0 mu σ τ o.type o.op=some e) (hs:e.side):qbg P old bs W ι τ o ρ e.val e.upd:=by
 generalize ho:o.op=op at h
 cases op with
 |move x=>exact qvZ hT ho (hx x) h
 |assign x=>exact qpf hT hN hk0 hcon ho (hx x) h
 |pick c a b=>exact qwF hT ho (hx c) (hx a) (hx b) h
 |alloc t=>exact qsp hT hN hk0 ho h
 |box t x=>exact qzg hT hN hk0 ho (hx x) h hs
 |buildSlice t n ps=>exact qjx hT hN hk0 ho hx h hs
 |build t ps=>exact qr5 hT ho hx h hs
 |load t x=>exact qxU hT ho (hx x) h
 |store t x y=>exact qsQ hT hN ho (hx x) (hx y) h hs
 |nilCheck x=>exact qlD hT ho (hx x) h hs
 |binOp op xt x y yt=>exact qAV hT ho (hx x) (hx y) h hs
 |unOp op t x=>exact qDU hT ho (hx x) h
 |convert s d x=>exact qoR hT ho (hx x) h hs
 |makeFunc f a b=>exact qmt hT ho hx h
 |makeSlice t l c=>exact qkc hT hN hk0 ho hx h hs
 |slice t x lo hi m=>cases m with
  |none=>exact qmR hT ho hx h hs
  |some _=>simp [opA] at h
 |fieldAddr s x f=>exact qkE hT ho (hx x) h hs
 |field s x f=>exact qte hT ho (hx x) h
 |indexAddr t x i=>exact qkG hT ho (hx x) (hx i) h hs
 |index t x i=>exact qse hT ho (hx x) (hx i) h hs
 |extract x i=>exact qn5 hT ho (hx x) h
 |call c=>
  obtain ⟨cal,args,ts⟩:=c
  cases cal with
  |builtin b=>
   cases b with
   |append=>exact qpO hT hN ho hx h hs
   |len=>exact qAY hT ho hx h hs
   |max=>exact qAl hT ho hx h hs
   |_=>simp [opA] at h
  |value f=>simp [opA] at h
  |invoke r m=>simp [opA] at h
 |_=>simp [opA] at h
end
end Go.Nv
end
section
namespace Go.Nv
open Go.RowKit
section
variable {P:Program} {old bs:Nat->Prop} {W:World} {ι:Nat->Value} {τ:Nat->B} {ρ:Operand->Value} {σ:Operand->S} {o:Oper} {k0:Nat} {mu:Bool} {e:Eff}
theorem qev(hT:TOk W old bs ι τ)(hN:qbO old W)(k:Nat)(hk:(τ k).live=true):qax old bs W ι τ W ι (at_ τ k .dead):=by
 have hst:qax old bs W ι τ W (at_ ι k (ι k)) (at_ τ k .dead):=by
  refine hT.upd hN k .dead (ι k) (row:=none) ⟨rfl,rfl,rfl,Nat.le_refl _,fun _ _ _=>rfl⟩ (by simp) (by simp [B.live]) (fun c hc=>⟨none,rfl,by simp⟩) (fun _ _ _=>trivial)
 have hι:at_ ι k (ι k)=ι:=by funext j;unfold at_;split<;>simp_all
 rw [hι] at hst
 exact hst
theorem qm4(hT:TOk W old bs ι τ){k b:Nat}(hk:(τ k).live=true)(hb:blk (ι k)=some b):okT bs (at_ τ k .dead) ι b:=by
 refine ⟨hT.bsn _ (hT.blk_new hk hb).1,fun j hj hbj=> ?_⟩
 by_cases e:j=k
 ·subst e;rw [qam] at hj;simp [B.live] at hj
 ·rw [qa7 _ _ e] at hj
  exact e (hT.apart j k b hj hk hbj hb)
theorem qm2{k b:Nat}(hb:okT bs τ ι b):okT bs (at_ τ k .dead) ι b:=⟨hb.1,fun j hj hbj=>by
  by_cases e:j=k
  ·subst e;rw [qam] at hj;simp [B.live] at hj
  ·rw [qa7 _ _ e] at hj;exact hb.2 j hj hbj⟩
theorem qjv(hT:TOk W old bs ι τ){k ver:Nat}{e:TypeId}{size bytes:Nat}{xs:List D}(hk:τ k= .row ver e size bytes xs)(h0:0<size):Den W (okT bs (at_ τ k .dead) ι) (.l xs) (ι k):=by
 have hlive:(τ k).live=true:=by rw [hk];rfl
 have he:=hT.ent k
 rw [hk] at he
 obtain ⟨us,ho,hd,h1,hnew⟩:=he
 rcases ho with ⟨hul,⟨hn,hz⟩|⟨g,cap,cur,hi,hb0,hh,hcap,hmax,hcs,htake⟩⟩
 ·have:xs= [] :=List.eq_nil_of_length_eq_zero hz
  subst this
  rw [hn];exact .l0 (Nat.zero_le _) (fun _=>rfl)
 ·rw [hi]
  by_cases hx:xs= []
  ·subst hx;exact .l0 hmax (by simp)
  ·have hne:us≠ [] :=by
    intro hn
    rw [hn] at hul
    have h3:0<xs.length*size:=Nat.mul_pos (List.length_pos_iff.2 hx) h0
    simp at hul;omega
   have hrow:=qfR (e:=e) (size:=size) (n:=xs.length) (v:=ι k) (us:=us) ⟨hul,.inr ⟨g,cap,cur,hi,hb0,hh,hcap,hmax,hcs,htake⟩⟩ (b:=g) (by rw [hi];rfl)
   have hd':=hd.keep (W':=W) (ok':=okT bs (at_ τ k .dead) ι) (fun _ _ _=>rfl) (fun b hb _=>qm2 hb)
   exact .l hne hd'.1 (qm4 hT hlive (by rw [hi];rfl)) hrow hd'.2 h1 hcap hmax
theorem qwD(hT:TOk W old bs ι τ){k ver:Nat}{e:TypeId}{size bytes:Nat}{xs:List D}(hk:τ k= .row ver e size bytes xs): ∃us,(ι k= .slice none 0 0/\xs= [] /\us= [])\/ ∃g cap,ι k= .slice (some ⟨g,0,none⟩) xs.length cap/\xs.length<=cap/\cap<=maxLen/\Cells W g 0 us/\qaM W (okT bs τ ι) (flat xs) us/\us.length=xs.length*size:=by
 have he:=hT.ent k
 rw [hk] at he
 obtain ⟨us,ho,hd,h1,hnew⟩:=he
 refine ⟨us, ?_⟩
 rcases ho with ⟨hul,⟨hn,hz⟩|⟨g,cap,cur,hi,hb0,hh,hcap,hmax,hcs,htake⟩⟩
 ·have h2:xs= [] :=List.eq_nil_of_length_eq_zero hz
  left
  refine ⟨hn,h2, ?_⟩
  rw [hz] at hul;simpa using hul
 ·right
  have hrow:=qfR (e:=e) (size:=size) (n:=xs.length) (v:=ι k) (us:=us) ⟨hul,.inr ⟨g,cap,cur,hi,hb0,hh,hcap,hmax,hcs,htake⟩⟩ (b:=g) (by rw [hi];rfl)
  exact ⟨g,cap,hi,hcap,hmax,hrow,hd,hul⟩
theorem qrg{xs:List D}(h:qjd xs):flat xs=xs:=by
 induction xs with
 |nil=>rfl
 |cons x xs ih=>
  obtain ⟨n,rfl⟩:=h x (by simp)
  have:=ih fun y hy=>h y (by simp [hy])
  simp only [flat,List.flatMap_cons] at this ⊢
  rw [this];rfl
theorem qvQ{ok:Nat->Prop}{xs:List D}{us:List Value}(h:qjd xs)(hd:qaM W ok xs us): ∃ns:List Int,us=ns.map (Value.int .u8)/\qgj xs=ns.foldl (fun r n=>r.push (UInt8.ofNat n.toNat)) ByteArray.empty:=by
 have key: ∃ns:List Int,xs=ns.map (fun n=>D.v (.int .u8 n))/\us=ns.map (Value.int .u8):=by
  induction xs generalizing us with
  |nil=>exact ⟨[],rfl,by rw [hd.nil_inv];rfl⟩
  |cons x xs ih=>
   obtain ⟨u,us',rfl,h1,h2⟩:=hd.cons_inv
   obtain ⟨n,rfl⟩:=h x (by simp)
   obtain ⟨ns,e1,e2⟩:=ih (fun y hy=>h y (by simp [hy])) h2
   cases h1
   exact ⟨n::ns,by simp [<-e1],by simp [<-e2]⟩
 obtain ⟨ns,rfl,rfl⟩:=key
 refine ⟨ns,rfl, ?_⟩
 have: ∀(ns:List Int) (s:ByteArray),ns.foldl (fun r n=>r.push (UInt8.ofNat n.toNat)) s=⟨(s.data.toList++ns.map fun n=>UInt8.ofNat n.toNat).toArray⟩:=by
  intro ns
  induction ns with
  |nil=>intro s;rcases s with ⟨⟨l⟩⟩;simp
  |cons n ns ih=>
   intro s
   rw [List.foldl_cons,ih]
   rcases s with ⟨⟨l⟩⟩
   simp [ByteArray.push]
 rw [this]
 simp only [qgj,List.map_map]
 congr 2
theorem qkI{b off:Nat}{xs:List D}{us:List Value}{cap:Nat}{ok:Nat->Prop}(h:qjd xs)(hd:qaM W ok xs us)(hc:Cells W b off us)(hl:us.length=xs.length):
  (Conv.bytesToString (.slice (some ⟨b,off,none⟩) xs.length cap)).run P W= .ok (.string (qgj xs)) W:=by
 obtain ⟨ns,rfl,e⟩:=qvQ h hd
 rw [e]
 have h2:xs.length=(ns.map (Value.int .u8)).length:=hl.symm
 rw [h2]
 refine run_bytesToString W _ _ cap ns ?_
 refine run_loadCells_list (w:=W) _ _ fun j v hj=> ?_
 rw [qbz]
 exact hc j v hj
theorem qsU(hT:TOk W old bs ι τ)(hN:qbO old W){src dst:TypeId}{x:Operand}(ho:o.op= .convert src dst x)(hx:qaG W ι (qap τ) (okT bs τ ι) (σ x) (ρ x))
  (h:opE P σ τ (.convert src dst x)=some e) (hs:e.side):qbg P old bs W ι τ o ρ e.val e.upd:=by
 have qrX: ∀{a:Option Addr} {l c:Nat},qfk P src->P.underlying dst=some .string->ρ x= .slice a l c->(execOp ρ o).run P W=((Conv.bytesToString (.slice a l c)).run P W).andThen fun v w=> .ok (.value v) w:=by
  intro a l c ⟨ee,h1,h2⟩ h3 hv
  simp only [execOp,ho,hv]
  simp only [Sem.run_bind,run_convert_bytes_string W src dst ee a l c h1 h2 h3]
  cases (Conv.bytesToString (.slice a l c)).run P W<;>rfl
 have qdu: ∀{xs:List D} {a:Option Addr} {l c:Nat},qfk P src->P.underlying dst=some .string->ρ x= .slice a l c->(Conv.bytesToString (.slice a l c)).run P W= .ok (.string (qgj xs)) W->qbg P old bs W ι τ o ρ (.d (.v (.string (qgj xs)))) none:=by
  intro xs a l c h1 h2 hv hr
  refine qbg.pure hT (v:= .string (qgj xs)) ?_ (.d (.v rfl))
  rw [qrX h1 h2 hv,hr];rfl
 have emp: ∀{a:Option Addr} {c:Nat},(Conv.bytesToString (.slice a 0 c)).run P W= .ok (.string (qgj [])) W:=by
  intro a c
  cases a with
  |none=>simp [Conv.bytesToString,qgj];rfl
  |some a=>
   have:=run_bytesToString (P:=P) W a 0 c [] (by simp [loadCells,loadCellsFrom])
   rw [this];rfl
 simp only [opE] at h
 split at h
 ·rename_i s h1
  simp at h;subst h
  obtain ⟨hsrc,⟨ee,he1,he2⟩,hsz⟩:=hs
  rw [h1] at hx
  have hv:=(qdg hx).1
  have hrun:=run_bytes_of_string (P:=P) W src dst ee s hsrc he1 he2
  have hcap:=grownCap_le_maxLen W s.size 0 ee hsz
  have hge:=grownCap_ge W s.size 0 ee
  generalize grownCap W s.size 0 ee=cap at*
  have hst:=hT.quiet hN (show W.grownBy (W.drew.alloc (.cells (bytesRow s cap) ee ((bytesRow s cap).size,(bytesRow s cap).size+1))) none from (let h:=World.grownBy_alloc W.drew (.cells (bytesRow s cap) ee ((bytesRow s cap).size,(bytesRow s cap).size+1)) none;⟨h.os,h.tape,h.output,h.size,h.block⟩))
  have hblk:(W.drew.alloc (.cells (bytesRow s cap) ee ((bytesRow s cap).size,(bytesRow s cap).size+1))).heap[W.heap.size]? =some (.cells (bytesRow s cap) ee ((bytesRow s cap).size,(bytesRow s cap).size+1)):=heap_alloc_new W.drew _
  refine ⟨.slice (some ⟨W.heap.size,0,none⟩) s.size cap,_,ι,.inl (by simp [execOp,ho,hv,hrun]),hst, ?_⟩
  have hok:okT bs τ ι W.heap.size:=⟨hT.bsn _ (fun ho=>absurd (hN _ ho) (by omega)),fun k hl hb=>absurd (hT.blk_new hl hb).2 (by omega)⟩
  have hlen:(strD s).length=s.size:=by unfold strD;rw [List.length_map];exact Array.length_toList
  rw [<-hlen]
  by_cases h0:s.size=0
  ·have e0:strD s= [] :=List.eq_nil_of_length_eq_zero (by omega)
   rw [e0]
   exact .d (.l0 hcap (fun h=>by cases h))
  ·have hfl:flat (strD s)=strD s:=by
    have hh: ∀l:List UInt8,(l.map fun b=>D.v (Value.int .u8 (b.toNat:Int))).flatMap D.cells=l.map fun b=>D.v (Value.int .u8 (b.toNat:Int)):=by
     intro l
     induction l with
     |nil=>rfl
     |cons a l ih=>rw [List.map_cons,List.flatMap_cons,ih];rfl
    exact hh _
   refine .d (.l (us:=s.data.toList.map fun b=>Value.int .u8 (b.toNat:Int)) ?_ ?_ hok ?_ ?_ ?_ (by omega) hcap)
   ·intro h
    have:=congrArg List.length h
    rw [List.length_map,Array.length_toList] at this
    exact h0 this
   ·rw [hfl];unfold strD;simp
   ·intro i u hu
    have hi:i<s.size:=by
     have:=(List.getElem?_eq_some_iff.1 hu).1
     rw [List.length_map,Array.length_toList] at this
     exact this
    simp only [World.cell?,hblk,Nat.zero_add]
    unfold bytesRow
    rw [Array.getElem?_append_left (by rw [Array.size_map];exact hi)]
    simpa using hu
   ·intro i c u hc hu
    rw [hfl] at hc
    unfold strD at hc
    rw [List.getElem?_map] at hc hu
    cases hb:s.data.toList[i]? with
    |none=>rw [hb] at hu;simp at hu
    |some b=>
     rw [hb] at hc hu
     simp at hc hu
     subst hc;subst hu
     exact .v rfl
   ·intro i u hu
    obtain ⟨b,_,rfl⟩:=List.mem_map.1 (List.mem_of_getElem? hu)
    rfl
 ·rename_i xs h1
  simp at h;subst h
  obtain ⟨hb,hd2,h8⟩:=hs
  rw [h1] at hx
  obtain ⟨A,cap,hv,hcap,hcm,hAn,hrow⟩:=qu7 hx
  refine qdu hb hd2 hv ?_
  by_cases hx0:xs= []
  ·subst hx0;exact emp
  ·obtain ⟨b,off,us,rfl,hne,hok,hc,hd,h1'⟩:=hrow (by rw [qrg h8];exact hx0)
   rw [qrg h8] at hd
   exact qkI h8 hd hc hd.1
 ·rename_i k ver h1
  split at h
  ·rename_i v et size bytes xs hk
   simp at h;subst h
   obtain ⟨rfl,rfl,hb,hd2,h8⟩:=hs
   rw [h1] at hx
   have hv:=qcw hx (qbl hk)
   obtain ⟨us,⟨hi,rfl,rfl⟩|⟨g,cap,hi,hcap,hmax,hc,hd,hl⟩⟩:=qwD hT hk
   ·rw [hi] at hv;exact qdu hb hd2 hv emp
   ·rw [hi] at hv
    refine qdu hb hd2 hv ?_
    rw [qrg h8] at hd
    exact qkI h8 hd hc hd.1
  ·simp at h
 ·simp at h
theorem qht{t:TypeId}{n:Nat}{e:TypeId}(h:qo7 P t=some (n,e)):P.underlying t=some (.array n e):=by
 unfold qo7 at h
 split at h
 ·rename_i a b hu;simp at h;obtain ⟨rfl,rfl⟩:=h;exact hu
 ·simp at h
theorem qwJ(hT:TOk W old bs ι τ){xt:TypeId}{x i:Operand}(ho:o.op= .indexAddr xt x i)(hx:qaG W ι (qap τ) (okT bs τ ι) (σ x) (ρ x))(hi:qaG W ι (qap τ) (okT bs τ ι) (σ i) (ρ i))
  (h:opE P σ τ (.indexAddr xt x i)=some e) (hs:e.side):qbg P old bs W ι τ o ρ e.val e.upd:=by
 have qrX: ∀{len:Nat} {ee:TypeId} {kk:IntKind} {n:Int} {b off:Nat},qo7 P xt=some (len,ee)->ρ i= .int kk n->ρ x= .pointer (some ⟨b,off,none⟩)->0<=n->n<len->P.cellsOf ee≠0->
   (execOp ρ o).run P W= .ok (.value (.pointer (some ⟨b,off+n.toNat*P.cellsOf ee,none⟩))) W:=by
  intro len ee kk n b off h1 h2 h3 g0 g1 hne
  simp [execOp,ho,Instr.indexAt,underlying,qht h1,asIntOf,h2,h3,Instr.sureAddr,g0,g1,qbb hne,qbz]
 simp only [opE] at h
 split at h
 ·rename_i len ee kk n h1 h2
  rw [h2] at hi
  split at h
  ·rename_i k ver off h3
   simp at h;subst h
   obtain ⟨g0,g1,hne,hv⟩:=hs
   rw [h3] at hx
   obtain ⟨b,hb,hxv⟩:=qc1 hx hv
   refine qbg.pure hT (qrX h1 (qdg hi).1 hxv g0 g1 hne) (.ptr (qaQ hv) fun _=>⟨b,hb,rfl⟩)
  ·rename_i off cs h3
   simp at h;subst h
   obtain ⟨g0,g1,hne⟩:=hs
   rw [h3] at hx
   obtain ⟨b,base,us,hxv,h4,h5,h6,h7,h8⟩:=qx5 hx
   refine qbg.pure hT (qrX h1 (qdg hi).1 hxv g0 g1 hne) ?_
   rw [Nat.add_assoc]
   exact .d (.p h4 h7.1 h5 h6 h7.2 h8)
  ·simp at h
 ·simp at h
theorem qwA(hT:TOk W old bs ι τ){xt:TypeId}{x i:Operand}(ho:o.op= .index xt x i)(hx:qaG W ι (qap τ) (okT bs τ ι) (σ x) (ρ x))(hi:qaG W ι (qap τ) (okT bs τ ι) (σ i) (ρ i))
  (h:opE P σ τ (.index xt x i)=some e) (hs:e.side):qbg P old bs W ι τ o ρ e.val e.upd:=by
 simp only [opE] at h
 split at h
 ·rename_i len ee cs kk n h1 h2 h3
  obtain ⟨d,hp,rfl⟩: ∃d,qdh P ee cs (n.toNat*P.cellsOf ee)=some d/\{val:= .d d,side:=0<=n/\n<len/\P.cellsOf ee≠0/\(P.underlying ee).isSome=true}=e:=by simpa using h
  obtain ⟨g0,g1,hne,hund⟩:=hs
  obtain ⟨dd,hdd⟩:=Option.isSome_iff_exists.1 hund
  rw [h2] at hx;rw [h3] at hi
  obtain ⟨us,hv,hd,h1'⟩:=qB0 hx
  have qrX:n.toNat*P.cellsOf ee+(if qaE P ee then P.cellsOf ee else 1)<=us.length->(execOp ρ o).run P W= .ok (.value (if qaE P ee then .agg ((us.drop (n.toNat*P.cellsOf ee)).take (P.cellsOf ee)).toArray else us.getD (n.toNat*P.cellsOf ee) undef)) W:=fun hl=>by
   simp [execOp,ho,Instr.index,underlying,qht h1,asIntOf,(qdg hi).1,hv,g0,g1,qbb hne,qjI hdd us _ hl]
  rcases qeE hp with ⟨ha,hl,rfl⟩|⟨ha,hg⟩
  ·refine qbg.pure hT (qrX (by rw [if_pos ha,hd.1];exact hl)) ?_
   rw [if_pos ha]
   have:=(hd.drop (n.toNat*P.cellsOf ee)).take (P.cellsOf ee)
   exact .d (Den.a this.1 this.2 (qfa h1' _ _))
  ·obtain ⟨u,hu,hdu⟩:=hd.at hg
   have hlt:n.toNat*P.cellsOf ee<us.length:=(List.getElem?_eq_some_iff.1 hu).1
   refine qbg.pure hT (qrX (by simp [ha];omega)) ?_
   simp only [ha]
   simpa [List.getD,hu] using qaG.d hdu
 ·simp at h
theorem qs9{ds:List D}(h: ∀x∈ds,x.cells= [x]):flat ds=ds/\Uni 1 ds:=by
 refine ⟨?_,fun x hx=>by rw [h x hx];rfl⟩
 induction ds with
 |nil=>rfl
 |cons x ds ih=>
  have:=ih fun y hy=>h y (by simp [hy])
  simp only [flat,List.flatMap_cons] at this ⊢
  rw [this,h x (by simp)];rfl
theorem qxw{ds:List D}(h:Uni 1 ds)(n m:Nat):flat (qcu ds n m)=qcu (flat ds) n m:=by
 have h2:Uni 1 (ds.take m):=fun y hy=>h y (List.mem_of_mem_take hy)
 unfold qcu
 rw [qeh h2,qfV h,Nat.mul_one,Nat.mul_one]
theorem qqb(hT:TOk W old bs ι τ)(hN:qbO old W){xt:TypeId}{x:Operand}{lo hi:Option Operand}(ho:o.op= .slice xt x lo hi none)(hx: ∀x,qaG W ι (qap τ) (okT bs τ ι) (σ x) (ρ x))
  (h:opE P σ τ (.slice xt x lo hi none)=some e) (hs:e.side):qbg P old bs W ι τ o ρ e.val e.upd:=by
 have hxx:=hx x
 simp only [opE] at h
 split at h
 ·rename_i k ver h1
  split at h
  ·rename_i bt cs len ee hk harr
   split at h
   ·rename_i ds l hh hds hl hhh
    simp at h;subst h
    obtain ⟨rfl,g0,g1,g2,hlen,hc1,hu1,hpos,hmax⟩:=hs
    rw [h1] at hxx
    have hlive:(τ k).live=true:=by rw [hk];rfl
    obtain ⟨b,hb,hxv⟩:=qc1 hxx (by simp [qap,hk,B.ver])
    have he:=hT.ent k
    rw [hk] at he
    obtain ⟨b',us,hi',hnew,hheap,hden,hone⟩:=he
    have hbb:b=b':=by rw [hi'] at hb;simpa [blk] using hb.symm
    subst hbb
    have hbd:=qgk (P:=P) (isSlice:=false) (len:=len) (cap:=len) hl hhh hx g0 g1 g2 (Nat.le_refl _)
    have hr:(execOp ρ o).run P W= .ok (.value (.slice (some (if len=l.toNat then ⟨b,0,none⟩ else ⟨b,l.toNat,none⟩)) (hh.toNat-l.toNat) (len-l.toNat))) W:=by
     simp [execOp,ho,Instr.sliceAt,underlying,qht harr,hxv,Instr.sureAddr,hbd,qbb (show P.cellsOf ee≠0 by omega),hc1,qbz]
    have hst:=qev hT hN k hlive
    refine ⟨_,W,ι,.inl hr,hst, ?_⟩
    have hcs:=qbQ hds
    subst hcs
    have hdl:=hden.inv
    have hul:us.length=len:=by rw [hdl.1];exact hlen
    have hcells:Cells W b 0 us:=by
     intro i u hu
     rw [Nat.zero_add]
     have hlt:=World.cell?
     simp only [World.cell?,hheap]
     simpa using hu
    have hlen2:(qcu ds l.toNat hh.toNat).length=hh.toNat-l.toNat:=by simp [qcu];omega
    have hdl':qaM W (okT bs (at_ τ k .dead) ι) ds us:=hdl.keep (fun _ _ _=>rfl) fun b hb _=>qm2 hb
    by_cases hz:hh.toNat-l.toNat=0
    ·have e0:qcu ds l.toNat hh.toNat= [] :=List.eq_nil_of_length_eq_zero (by omega)
     rw [e0,hz]
     refine .d (.l0 (by omega) fun hn=> ?_)
     split at hn<;>simp at hn
    ·rw [if_neg (by omega), <-hlen2]
     obtain ⟨hflat,hu1'⟩:=qs9 hu1
     have hfl:flat (qcu ds l.toNat hh.toNat)=qcu (flat ds) l.toNat hh.toNat:=qxw hu1' _ _
     rw [show (qcu ds l.toNat hh.toNat).length=(qcu ds l.toNat hh.toNat).length from rfl]
     have e2:=(hdl'.take hh.toNat).drop l.toNat
     refine .d (.l (us:=(us.take hh.toNat).drop l.toNat) ?_ ?_ (qm4 hT hlive (by rw [hi'];rfl)) ?_ ?_ ?_ (by omega) (by omega))
     ·intro hn
      have:=congrArg List.length hn
      simp at this;omega
     ·rw [hfl,hflat];exact e2.1
     ·intro i u hu
      rw [List.getElem?_drop,List.getElem?_take] at hu
      split at hu
      ·have:=hcells _ _ hu
       rwa [Nat.zero_add] at this
      ·simp at hu
     ·rw [hfl,hflat];exact e2.2
     ·intro i u hu
      rw [List.getElem?_drop,List.getElem?_take] at hu
      split at hu
      ·exact hone _ _ hu
      ·simp at hu
   ·simp at h
  ·simp at h
 ·rename_i k ver h1
  split at h
  ·rename_i v et size bytes xs ee hk hee
   split at h
   ·rename_i l hh hl hhh
    simp at h;subst h
    obtain ⟨rfl,hsz,g0,g1,g2,hu,hpos⟩:=hs
    rw [h1] at hxx
    have hlive:(τ k).live=true:=by rw [hk];rfl
    have hv:=qcw hxx (qbl hk)
    have hst:=qev hT hN k hlive
    have hrd:=qjv hT hk hpos
    rw [<-hv] at hrd
    --as the slice of data
    have hA:qbg P old bs W ι (at_ τ k .dead) o ρ (.d (.l (qcu xs l.toNat hh.toNat))) none:=by
     classical
     have hints: ∀(q:Option Operand) (d n:Int),qff σ q d=some n->qff (fun y=>if y=x then .d (.l xs) else σ y) q d=some n:=by
      intro q d n hq
      cases q with
      |none=>exact hq
      |some y=>
       simp only [qff] at hq ⊢
       by_cases hyx:y=x
       ·subst hyx;rw [h1] at hq;simp at hq
       ·rw [if_neg hyx];exact hq
     refine qmR (k0:=0) (mu:=false) (σ:=fun y=>if y=x then .d (.l xs) else σ y) (e:={val:= .d (.l (qcu xs l.toNat hh.toNat)),side:=0<=l/\l<=hh/\hh<=xs.length/\Uni (P.cellsOf ee) xs/\0<P.cellsOf ee}) hst.tok ho (fun y=> ?_) ?_ ⟨g0,g1,g2,by rw [<-hsz];exact hu,by omega⟩
     ·by_cases hyx:y=x
      ·subst hyx;simp only [if_true];exact .d hrd
      ·simp only [if_neg hyx];exact hst.sden (hx y)
     ·simp only [opA,if_true,hints _ _ _ hl,hints _ _ _ hhh,hee]
    obtain ⟨v',W',ι',hrun,hst2,hsd⟩:=hA
    exact ⟨v',W',ι',hrun,hst.trans hst2,hsd⟩
   ·simp at h
  ·simp at h
 ·simp at h
theorem qA9(hT:TOk W old bs ι τ){args:Array Operand}{ts:Array TypeId}(ho:o.op= .call {callee:= .builtin .min,args:=args,argTypes:=ts})(hx: ∀x,qaG W ι (qap τ) (okT bs τ ι) (σ x) (ρ x))
  (h:opE P σ τ (.call {callee:= .builtin .min,args:=args,argTypes:=ts})=some e) (hs:e.side):qbg P old bs W ι τ o ρ e.val e.upd:=by
 simp only [opE] at h
 split at h
 ·rename_i x y hargs
  split at h
  ·rename_i k a k' b ha hb
   simp at h;subst h
   obtain rfl:k=k':=hs
   have ha':=(qdg (ha▸hx x)).1
   have hb':=(qdg (hb▸hx y)).1
   have hg:args= #[x,y] :=by cases args;simp_all
   subst hg
   refine qbg.pure hT (v:= .int k (if b<a then b else a)) ?_ (.d (.v rfl))
   simp [execOp,ho,resolve,invoke,ha',hb',builtin,Builtin.min_,Builtin.min2]
   try (split<;>rfl)
  ·simp at h
 ·simp at h
theorem qkC{dT sT ty elem:TypeId}{i:TypeInfo}{W W':World}(hu:P.underlying dT=some (.slice elem))(hi:P.info? elem=some i)(g dCap n:Nat)(A:Option Addr)(sCap:Nat)(vs:List Value)(hvs:vs.length=n*i.size)
  (hsrc: ∀ad,A=some ad-> ∀(j:Nat) (u:Value),vs[j]? =some u->W.cell? (ad.add j)=some u) (hA:A=none->vs= []) (hst:(storeCells ⟨g,0,none⟩ vs).run P W= .ok () W'):
  (Builtin.copy_ #[dT,sT] ty #[.slice (some ⟨g,0,none⟩) n dCap,.slice A n sCap]).run P W= .ok (goInt n) W':=by
 cases A with
 |none=>
  have:=hA rfl
  subst this
  simp [Builtin.copy_,run_underlying hu,Builtin.lenOf,Builtin.firstCells,sizeOf,typeInfo,hi,hst]
 |some ad=>
  have hl:=run_loadCells_list (P:=P) W ad vs (hsrc ad rfl)
  rw [hvs] at hl
  simp [Builtin.copy_,run_underlying hu,Builtin.lenOf,Builtin.firstCells,sizeOf,typeInfo,hi,hl,hst]
theorem qxX(hT:TOk W old bs ι τ)(hN:qbO old W){args:Array Operand}{ts:Array TypeId}(ho:o.op= .call {callee:= .builtin .copy,args:=args,argTypes:=ts})(hx: ∀x,qaG W ι (qap τ) (okT bs τ ι) (σ x) (ρ x))
  (h:opE P σ τ (.call {callee:= .builtin .copy,args:=args,argTypes:=ts})=some e) (hs:e.side):qbg P old bs W ι τ o ρ e.val e.upd:=by
 simp only [opE] at h
 split at h
 ·rename_i x y t t' hargs hts
  have ha:args= #[x,y] :=by cases args;simp_all
  have hb:ts= #[t,t'] :=by cases ts;simp_all
  subst ha;subst hb
  split at h
  ·rename_i k ver ys ee h1 h2 h3
   have hsd:=hx x
   have hyd:=hx y
   rw [h1] at hsd;rw [h2] at hyd
   have ht:=qbJ h3
   split at h
   ·rename_i v e' size bytes xs hk
    split at h
    ·rename_i hc
     obtain ⟨rfl,rfl⟩:=hc
     simp at h;subst h
     obtain ⟨⟨i,z,hi,hz,hsize,hby,hzs⟩,h0,hux,huy,hlen⟩:=hs
     have hv:=qcw hsd (qbl hk)
     have he:=hT.ent k
     rw [hk] at he
     obtain ⟨us,hown,hd,h1u,hnew⟩:=he
     obtain ⟨A,cap,hyv,hcap,hcm,hAn,hrow⟩:=qu7 hyd
     have hfy:=qbi huy
     obtain ⟨vs,hvs,hsrc,hA0,hd2,h12⟩: ∃vs:List Value,vs.length=ys.length*size/\(∀ad,A=some ad-> ∀(j:Nat) (u:Value),vs[j]? =some u->W.cell? (ad.add j)=some u)/\(A=none->vs= [])/\qaM W (okT bs τ ι) (flat ys) vs/\ ∀(i:Nat) (u:Value),vs[i]? =some u->u.oneCell'=true:=by
      by_cases hne:flat ys= []
      ·refine ⟨[], ?_,by simp,fun _=>rfl,by rw [hne];exact qaM.nil _ _,by simp⟩
       rw [<-hfy,hne];rfl
      ·obtain ⟨b,off,vs,hA,_,_,hc,hd2,h12⟩:=hrow hne
       subst hA
       exact ⟨vs,by rw [hd2.1,hfy],(fun ad hh j u hu=>by cases hh;rw [qbz];exact hc j u hu),(fun hh=>by cases hh),hd2,h12⟩
     have h12': ∀u∈vs,u.oneCell'=true:=fun u hu=>by obtain ⟨j,hj⟩:=List.getElem?_of_mem hu;exact h12 j u hj
     have hown0:=hown
     have hb0:=qcJ _ _ hown
     rcases hown with ⟨hul,⟨hn,hz0⟩|⟨g,cap2,cur,hgi,hbase,hh,hcap2,hmax2,hcs,htake⟩⟩
     ·have hy0:ys= [] :=List.eq_nil_of_length_eq_zero (by omega)
      subst hy0
      have hv0:vs= [] :=List.eq_nil_of_length_eq_zero (by simpa using hvs)
      have hst:=hT.rowTo hN (v2:=ver) (ys:= []) (bytes:=bytes) (v':=ι k) (us:= []) hk (Nat.le_refl _) (fun _=>rfl) (World.grownBy.refl W _) (.inl rfl) (by rw [hn];exact ⟨by simp,.inl ⟨rfl,rfl⟩⟩) (fun ok' _=>qaM.nil _ _) (by simp)
      refine ⟨.int .i64 0,W,at_ ι k (ι k),.inl ?_,hst,.d (.v rfl)⟩
      rw [hn] at hv
      simp only [List.length_nil] at hyv
      cases A with
      |none=>simp [execOp,ho,resolve,invoke,builtin,hv,hyv,Builtin.copy_,run_underlying ht,Builtin.lenOf,Builtin.firstCells,sizeOf,typeInfo,hi,Result.andThen,goInt]
      |some ad=>
       have hl:=run_loadCells_list (P:=P) W ad [] (by simp)
       simp at hl
       simp [execOp,ho,resolve,invoke,builtin,hv,hyv,Builtin.copy_,run_underlying ht,Builtin.lenOf,Builtin.firstCells,sizeOf,typeInfo,hi,hl,Result.andThen,goInt]
     ·have hle:xs.length*size<=cap2*size:=Nat.mul_le_mul_right _ hcap2
      obtain ⟨W',hr,hg,hs',cs',hb2,hcs'⟩:=qeG (P:=P) g cur ee (0,0) vs 0 0 W cur hh (by rw [hvs,hcs, <-hlen];omega) h12'
      have hrun:=qkC (P:=P) (dT:=t) (sT:=t') (ty:=o.type) ht hi g cap2 ys.length A cap vs (by rw [hvs,hsize]) hsrc hA0 hr
      have hvl:vs.length<=cur.size:=by rw [hvs,hcs, <-hlen];exact hle
      have hcs2:cs'.size=cap2*size:=by
       have:cs'.toList.length=cur.toList.length:=by rw [hcs'];simp;omega
       rw [<-hcs];simpa using this
      have hst:=hT.rowTo hN (v2:=ver) (ys:=ys) (bytes:=bytes) (v':=ι k) (us:=vs) (W':=W') hk (Nat.le_refl _) (fun _=>rfl) (by rw [hgi];exact hg) (.inl rfl)
       (by
        rw [hgi]
        refine ⟨hvs,.inr ⟨g,cap2,cs',by rw [hlen],Nat.zero_le _,hb2,by omega,hmax2,hcs2, ?_⟩⟩
        rw [hcs', <-hvs];simp)
       (fun ok' hok'=>hd2.keep (fun b hb hl=>hg.block b hl fun ee'=>by
        refine hb.2 k (by rw [hk];rfl) ?_
        rw [hgi];simp [blk];cases ee';rfl) hok') h12
      refine ⟨.int .i64 ys.length,W',at_ ι k (ι k),.inl ?_,hst,.d (.v rfl)⟩
      rw [hgi,hlen] at hv
      simp [execOp,ho,resolve,invoke,builtin,hv,hyv,hrun,Result.andThen,goInt]
    ·simp at h
   ·simp at h
  ·simp at h
 ·simp at h
theorem qp5(hT:TOk W old bs ι τ)(hN:qbO old W)(hx: ∀x,qaG W ι (qap τ) (okT bs τ ι) (σ x) (ρ x))(h:opE P σ τ o.op=some e)(hs:e.side):qbg P old bs W ι τ o ρ e.val e.upd:=by
 generalize ho:o.op=op at h
 cases op with
 |convert s d x=>exact qsU hT hN ho (hx x) h hs
 |indexAddr t x i=>exact qwJ hT ho (hx x) (hx i) h hs
 |index t x i=>exact qwA hT ho (hx x) (hx i) h hs
 |slice t x lo hi m=>cases m with
  |none=>exact qqb hT hN ho hx h hs
  |some _=>simp [opE] at h
 |call c=>
  obtain ⟨cal,args,ts⟩:=c
  cases cal with
  |builtin b=>
   cases b with
   |min=>exact qA9 hT ho hx h hs
   |copy=>exact qxX hT hN ho hx h hs
   |_=>simp [opE] at h
  |value f=>simp [opE] at h
  |invoke r m=>simp [opE] at h
 |_=>simp [opE] at h
theorem qhZ(hT:TOk W old bs ι τ)(hN:qbO old W)(hk0:τ k0= .gone)(hx: ∀x,qaG W ι (qap τ) (okT bs τ ι) (σ x) (ρ x))(hcon: ∀v,ρ (.const v)=v)
  (h:opS P k0 mu σ τ o.type o.op=some e) (hs:e.side):qbg P old bs W ι τ o ρ e.val e.upd:=by
 rcases qpl h with h|h
 ·exact qqx hT hN hk0 hx hcon h hs
 ·exact qp5 hT hN hx h hs
end
end Go.Nv
end
section
namespace Go.Nv
open Go.RowKit
def qec(w':World)(ok:Nat->Prop):List D->Value->Prop
 | [d],v=>Den w' ok d v
 |ds,v=> ∃us,v= .tuple (List.toArray us)/\qaM w' ok ds us
def qe8(P:Program)(g:FuncId):Prop:= ∃fn,P.funcs[g]? =some fn/\fn.body.isSome=true/\(fn.name== "runtime.NumGoroutine")=false
def Fun(P:Program)(g:FuncId)(args res:List D):Prop:=qe8 P g/\
 ∀(w:World) (ok:Nat->Prop) (us:List Value),qaM w ok args us->
  Calls P g us.toArray w fun e w'=> ∃v,e= .returned v/\qec w' (fun b=>ok b\/w.heap.size<=b) res v/\Below w.heap.size w w'
def qps(P:Program)(g:FuncId)(args:List D)(e:TypeId)(size:Nat)(res:List D):Prop:=qe8 P g/\
 ∀(w:World) (ok:Nat->Prop) (us:List Value),qaM w ok args us->
  Calls P g us.toArray w fun r w'=> ∃v vs,r= .returned v/\w'.ownsRow w.heap.size e size v res.length vs/\qaM w' (fun b=>(ok b\/w.heap.size<=b)/\blk v≠some b) (flat res) vs/\(∀(i:Nat) (u:Value),vs[i]? =some u->u.oneCell'=true)/\Below w.heap.size w w'
def qna(P:Program)(g:FuncId)(e:TypeId)(size:Nat)(args xs ys:List D):Prop:=qe8 P g/\
 ∀(w:World) (ok:Nat->Prop) (v:Value) (us0 us:List Value),w.ownsRow 0 e size v xs.length us0->qaM w ok (flat xs) us0->(∀(i:Nat) (u:Value),us0[i]? =some u->u.oneCell'=true)->(∀b,blk v=some b-> ¬ok b)->qaM w ok args us->
  Calls P g (v::us).toArray w fun r w'=> ∃v' vs,r= .returned v'/\w'.ownsRow 0 e size v' ys.length vs/\qaM w' (fun b=>(ok b\/w.heap.size<=b)/\blk v'≠some b) (flat ys) vs/\(∀(i:Nat) (u:Value),vs[i]? =some u->u.oneCell'=true)/\
   (∀b,blk v'=some b->blk v=some b\/w.heap.size<=b)/\w.grownBy w' (blk v)
def qya(k ver:Nat)(xs:List D):S->S
 | .own j v=>match Nat.beq j k&&Nat.beq v ver with|true=> .d (.l xs)|false=> .top
 | .d x=> .d x
 |_=> .top
def qj4:List D->S
 | [d] => .d d
 |ds=> .tup (ds.map .d)
structure St where
 env:List S
 t:List B
def tat(t:List B)(k:Nat):B:=t.getD k .gone
def qaH(t:List B)(k:Nat)(b:B):List B:=if k<t.length then t.set k b else t++List.replicate (k-t.length) .gone++ [b]
theorem qaD(t:List B)(k:Nat)(b:B):tat (qaH t k b)=at_ (tat t) k b:=by
 funext j
 unfold tat qaH at_
 split
 ·rename_i h
  simp only [List.getD_eq_getElem?_getD,List.getElem?_set]
  by_cases e:j=k
  ·subst e;simp [h]
  ·rw [if_neg (fun e'=>e e'.symm),if_neg e]
 ·rename_i h
  simp only [List.getD_eq_getElem?_getD]
  by_cases e:j=k
  ·subst e
   rw [if_pos rfl,List.getElem?_append_right (by simp;omega)]
   simp
   rw [show j-(t.length+(j-t.length))=0 from by omega]
   rfl
  ·rw [if_neg e]
   rcases Nat.lt_or_ge j t.length with h1|h1
   ·rw [List.getElem?_append_left (by simp;omega),List.getElem?_append_left h1]
   ·rw [List.getElem?_eq_none (l:=t) h1]
    rcases Nat.lt_or_ge j k with h2|h2
    ·rw [List.getElem?_append_left (by simp;omega),List.getElem?_append_right h1,List.getElem?_replicate_of_lt (by omega)];rfl
    ·rw [List.getElem?_eq_none (by simp;omega)]
def qj9(t:List B):Option (Nat×B)->List B
 |none=>t
 |some (k,b)=>qaH t k b
theorem qmL(t:List B)(u:Option (Nat×B)):tat (qj9 t u)=qrB (tat t) u:=by
 cases u with
 |none=>rfl
 |some x=>exact qaD t x.1 x.2
theorem qb7(t:List B):tat t t.length= .gone:=by simp [tat]
def qks:Value->Option D
 | .agg cs=>(cs.toList.mapM toD).map .a
 |v=>toD v
def ev(env:List S):Operand->S
 | .tmp t=>env.getD t .top
 | .const v=>match qks v with|some d=> .d d|none=> .top
 | .global _=> .top
 | .func f=> .d (.f f [])
def qfg(env:List S)(dst:Option Tmp)(s:S):List S:=match dst with|some d=>env.set d s|none=>env
structure qcN where
 tch:List Nat
 upd:Option Nat
def S.refs:S->List Nat
 | .ptr k _ _=> [k]
 | .own k _=> [k]
 | .clo _ cs=>refsL cs
 | .tup cs=>refsL cs
 | .agg cs=>refsL cs
 |_=> []
where refsL:List S->List Nat
 | [] => []
 |c::cs=>c.refs++refsL cs
def qgo(σ:Operand->S)(op:Op):List Nat:=
 match op with
 | .move _| .assign _| .pick .. | .extract .. | .makeFunc .. => []
 |op=>op.operands.toList.flatMap fun x=>(σ x).refs
def qmv:Op->Bool
 | .call {callee:= .value _,.. }=>true
 |_=>false
def qr1(mu:Tmp->Bool):Option Tmp->Bool
 |some d=>mu d
 |none=>false
def qcd(P:Program)(mu:Tmp->Bool)(o:Oper)(st:St)(K:qcN->St->Prop):Prop:=
 match o.op with
 | .call {callee:= .value f,args,.. }=>
  match ev st.env f,qdY (args.toList.map (ev st.env)) with
  | .d (.f g cap),some ds=>
   (∃res,Fun P g (ds++cap) res/\K ⟨[],none⟩ ⟨qfg st.env o.dst (qj4 res),st.t⟩)\/
   (∃e size bytes res,qps P g (ds++cap) e size res/\K ⟨[],some st.t.length⟩ ⟨qfg st.env o.dst (.own st.t.length 0),qaH st.t st.t.length (.row 0 e size bytes res)⟩)
  | .d (.f g cap),none=>(∃x rest ds k ver e size bytes xs ys,cap= [] /\args.toList=x::rest/\ev st.env x= .own k ver/\qdY (rest.map (ev st.env))=some ds/\tat st.t k= .row ver e size bytes xs/\qna P g e size ds xs ys/\
   K ⟨[k],some k⟩ ⟨qfg st.env o.dst (.own k (ver+1)),qaH st.t k (.row (ver+1) e size bytes ys)⟩)\/
   (∃k ver e size bytes xs ds res,tat st.t k= .row ver e size bytes xs/\0<size/\qdY ((args.toList.map (ev st.env)).map (qya k ver xs))=some ds/\Fun P g (ds++cap) res/\K ⟨[k],some k⟩ ⟨qfg st.env o.dst (qj4 res),qaH st.t k .dead⟩)
  |_,_=>False
 |_=>
  match opS P st.t.length (qr1 mu o.dst) (ev st.env) (tat st.t) o.type o.op with
  |some e=>e.side/\K ⟨qgo (ev st.env) o.op,e.upd.map (·.1)⟩ ⟨qfg st.env o.dst e.val,qj9 st.t e.upd⟩
  |none=>False
def qgH(P:Program)(mu:Tmp->Bool)(ops:Array Oper):List Oper->List qcN->St->(List qcN->St->Prop)->Prop
 | [],acc,st,K=>K acc st
 |o::rest,acc,st,K=>
  match o.guard with
  |none=>qcd P mu o st fun l st'=>qgH P mu ops rest (acc++ [l]) st' K
  |some (j,want)=>
   match ev st.env (match (ops[j]?).bind (·.dst) with|some d=> .tmp d|none=> .global 0) with
   | .d (.v (.bool b))=>
    (b=want->qcd P mu o st fun l st'=>qgH P mu ops rest (acc++ [l]) st' K)/\
    (b≠want->qgH P mu ops rest (acc++ [⟨[],none⟩]) ⟨qfg st.env o.dst (.tup []),st.t⟩ K)
   | .tup [] =>qgH P mu ops rest (acc++ [⟨[],none⟩]) ⟨qfg st.env o.dst (.tup []),st.t⟩ K
   |_=>False
inductive Ex where
 |normal
 |exit (id:Nat)
 |ret
deriving DecidableEq
def qyb(ops:List Oper):List Nat:=
 ops.foldl (fun acc o=>acc++ [o.after.toList.foldl (fun s e=>if Region.binds .any e then s|||(2^e.on|||acc.getD e.on 0) else s) 0]) []
def qbF(ops:Array Oper)(x y:Oper)(lx ly:qcN):Bool:=
 (x.dst.any fun d=>(y.looksAt ops).contains d||y.dst==some d)||(y.dst.any fun d=>(x.looksAt ops).contains d)||
 (lx.upd.any fun k=>ly.tch.contains k||ly.upd==some k)||(ly.upd.any fun k=>lx.tch.contains k)
def qgN(ops:Array Oper)(ls:List qcN):Bool:=
 let bs:=qyb ops.toList
 (List.range ops.size).all fun j=>
  match ops[j]? with
  |none=>true
  |some y=>
   (y.after.all fun e=> !Region.binds .any e||decide (e.on<j))&&
   (List.range j).all fun i=>
    match ops[i]? with
    |none=>true
    |some x=> !qbF ops x y (ls.getD i ⟨[],none⟩) (ls.getD j ⟨[],none⟩)||(bs.getD j 0).testBit i
def Safe(ops:Array Oper)(ls:List qcN):Prop:=qgN ops ls=true
def qwU(body:St->(Ex->St->Prop)->Prop):Nat->St->(Ex->St->Prop)->Prop
 |0,_,_=>False
 |n+1,st,K=>body st fun
  | .normal,st'=>qwU body n st' K
  |e,st'=>K e st'
def vc(P:Program)(mu:Tmp->Bool):Code->St->(Ex->St->Prop)->Prop
 | .skip,st,K=>K .normal st
 | .region _ ops draw,st,K=>qgH P mu ops ops.toList [] st fun ls st'=>(draw=true->Safe ops ls)/\K .normal st'
 | .seq a b,st,K=>vc P mu a st fun
  | .normal,st'=>vc P mu b st' K
  |e,st'=>K e st'
 | .cond c a b,st,K=>match ev st.env c with
  | .d (.v (.bool z))=>(z=true->vc P mu a st K)/\(z=false->vc P mu b st K)
  |_=>False
 | .block id body,st,K=>vc P mu body st fun
  | .exit i,st'=>if i=id then K .normal st' else K (.exit i) st'
  |e,st'=>K e st'
 | .loop body,st,K=> ∃n,qwU (vc P mu body) n st K
 | .exit id,st,K=>K (.exit id) st
 | .ret,st,K=>K .ret st
 |_,_,_=>False
end Go.Nv
end
