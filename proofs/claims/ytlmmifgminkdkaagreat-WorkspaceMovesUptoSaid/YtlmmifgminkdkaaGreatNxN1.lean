import Derived.Below
import Derived.OwnWalk
import Derived.CallsIn
import Derived.OrdersIn
import Derived.LoopIn
import Derived.WalkKit
import Derived.Laws.Cells
import Derived.Laws.StructEq
set_option linter.all false
set_option maxRecDepth 100000
section
namespace Go.Nv
open Go.RowKit
inductive D where
 |v (x:Value)
 |a (cs:List D)
 |l (xs:List D)
 |p (off:Nat) (cs:List D)
 |f (g:FuncId) (cap:List D)
def D.cells:D->List D
 | .a cs=>cs
 |d=> [d]
def flat(xs:List D):List D:=xs.flatMap D.cells
def qnC:Value->Bool
 | .bool _| .int .. | .string _| .nilFunc| .nilIface=>true
 | .slice none 0 0=>true
 |_=>false
inductive Den (W:World) (ok:Nat->Prop):D->Value->Prop
 |v {x:Value}:qnC x=true->Den W ok (.v x) x
 |a {cs:List D} {us:List Value}:us.length=cs.length->(∀(i:Nat) (c:D) (u:Value),cs[i]? =some c->us[i]? =some u->Den W ok c u)->(∀(i:Nat) (u:Value),us[i]? =some u->u.oneCell'=true)->Den W ok (.a cs) (.agg us.toArray)
 |l0 {A:Option Addr} {cap:Nat}:cap<=maxLen->(A=none->cap=0)->Den W ok (.l []) (.slice A 0 cap)
 |l {xs:List D} {b off cap:Nat} {us:List Value}:us≠ [] ->us.length=(flat xs).length->ok b->(∀(i:Nat) (u:Value),us[i]? =some u->W.cell? ⟨b,off+i,none⟩=some u)->
   (∀(i:Nat) (c:D) (u:Value),(flat xs)[i]? =some c->us[i]? =some u->Den W ok c u)->(∀(i:Nat) (u:Value),us[i]? =some u->u.oneCell'=true)->xs.length<=cap->cap<=maxLen->Den W ok (.l xs) (.slice (some ⟨b,off,none⟩) xs.length cap)
 |p {off base b:Nat} {cs:List D} {us:List Value}:us≠ [] ->us.length=cs.length->ok b->(∀(i:Nat) (u:Value),us[i]? =some u->W.cell? ⟨b,base+i,none⟩=some u)->
   (∀(i:Nat) (c:D) (u:Value),cs[i]? =some c->us[i]? =some u->Den W ok c u)->(∀(i:Nat) (u:Value),us[i]? =some u->u.oneCell'=true)->Den W ok (.p off cs) (.pointer (some ⟨b,base+off,none⟩))
 |f {g:FuncId} {cap:List D} {us:List Value}:us.length=cap.length->(∀(i:Nat) (c:D) (u:Value),cap[i]? =some c->us[i]? =some u->Den W ok c u)->Den W ok (.f g cap) (.func (.func g) #[] us.toArray)
theorem Den.keep{W W':World}{ok ok':Nat->Prop}(hb: ∀b,ok b->b<W.heap.size->W'.heap[b]? =W.heap[b]?)(hok: ∀b,ok b->b<W.heap.size->ok' b)
  {d:D} {v:Value} (h:Den W ok d v):Den W' ok' d v:=by
 have blk: ∀{us:List Value} {b base:Nat},us≠ [] ->(∀(i:Nat) (u:Value),us[i]? =some u->W.cell? ⟨b,base+i,none⟩=some u)->b<W.heap.size:=by
  intro us b base hne hc
  cases us with
  |nil=>exact absurd rfl hne
  |cons u us=>exact World.block_lt_of_cell? W _ (hc 0 u rfl)
 induction h with
 |v hx=>exact .v hx
 |a hl _ h1 ih=>exact .a hl ih h1
 |l0 hc hn=>exact .l0 hc hn
 |l hne hl ho hc _ h0 h1 h2 ih=>
  have hlt:=blk hne hc
  exact .l hne hl (hok _ ho hlt) (fun i u hu=>(World.cell?_of_block (hb _ ho hlt)).trans (hc i u hu)) ih h0 h1 h2
 |p hne hl ho hc _ h0 ih=>
  have hlt:=blk hne hc
  exact .p hne hl (hok _ ho hlt) (fun i u hu=>(World.cell?_of_block (hb _ ho hlt)).trans (hc i u hu)) ih h0
 |f hl _ ih=>exact .f hl ih
theorem Den.oneCell{W:World}{ok:Nat->Prop}{d:D}{v:Value}(h:Den W ok d v)(hd:d.cells= [d]):v.oneCell'=true:=by
 cases h with
 |v hx=>cases v<;>simp_all [qnC,Value.oneCell']
 |a hl _ _=>simp [D.cells] at hd;exact absurd (congrArg (fun l:List D=>SizeOf.sizeOf l) hd) (by simp;omega)
 |l0 _ _=>rfl
 |l _ _ _ _ _ _ _ _=>rfl
 |p _ _ _ _ _ _=>rfl
 |f _ _=>rfl
theorem Den.mono{W:World}{ok ok':Nat->Prop}{d:D}{v:Value}(h:Den W ok d v)(hok: ∀b,ok b->ok' b):Den W ok' d v:=
 h.keep (fun _ _ _=>rfl) (fun b hb _=>hok b hb)
theorem Den.fresh{W:World}{ok:Nat->Prop}{d:D}{v:Value}(h:Den W ok d v):Den W (fun b=>ok b/\b<W.heap.size) d v:=
 h.keep (fun _ _ _=>rfl) (fun b hb hl=>⟨hb,hl⟩)
def qaO(W:World)(ok:Nat->Prop)(cs:List D)(us:List Value):Prop:=
 us.length=cs.length/\ ∀(i:Nat) (c:D) (u:Value),cs[i]? =some c->us[i]? =some u->Den W ok c u
theorem qaO.keep{W W':World}{ok ok':Nat->Prop}(hb: ∀b,ok b->b<W.heap.size->W'.heap[b]? =W.heap[b]?)(hok: ∀b,ok b->b<W.heap.size->ok' b)
  {cs:List D} {us:List Value} (h:qaO W ok cs us):qaO W' ok' cs us:=⟨h.1,fun i c u hc hu=>(h.2 i c u hc hu).keep hb hok⟩
theorem qaO.nil(W:World)(ok:Nat->Prop):qaO W ok [] [] :=⟨rfl,fun i c u hc=>by simp at hc⟩
theorem qaO.cons{W:World}{ok:Nat->Prop}{c:D}{u:Value}{cs:List D}{us:List Value}(h:Den W ok c u)(hs:qaO W ok cs us):qaO W ok (c::cs) (u::us):=by
 refine ⟨by simp [hs.1],fun i c' u' hc hu=> ?_⟩
 cases i with
 |zero=>simp at hc hu;subst hc;subst hu;exact h
 |succ i=>simp at hc hu;exact hs.2 i c' u' hc hu
theorem qaO.nil_inv{W:World}{ok:Nat->Prop}{us:List Value}(h:qaO W ok [] us):us= [] :=List.eq_nil_of_length_eq_zero h.1
theorem qaO.cons_inv{W:World}{ok:Nat->Prop}{c:D}{cs:List D}{us:List Value}(h:qaO W ok (c::cs) us): ∃u us',us=u::us'/\Den W ok c u/\qaO W ok cs us':=by
 cases us with
 |nil=>have:=h.1;simp at this
 |cons u us=>
  refine ⟨u,us,rfl,h.2 0 c u rfl rfl,by have:=h.1;simpa using this,fun i c' u' hc hu=>h.2 (i+1) c' u' (by simpa using hc) (by simpa using hu)⟩
theorem qaO.append{W:World}{ok:Nat->Prop}{cs ds:List D}{us vs:List Value}(h:qaO W ok cs us)(k:qaO W ok ds vs):qaO W ok (cs++ds) (us++vs):=by
 induction cs generalizing us with
 |nil=>rw [h.nil_inv];exact k
 |cons c cs ih=>
  obtain ⟨u,us',rfl,h1,h2⟩:=h.cons_inv
  exact qaO.cons h1 (ih h2)
theorem qaO.drop{W:World}{ok:Nat->Prop}{cs:List D}{us:List Value}(h:qaO W ok cs us)(n:Nat):qaO W ok (cs.drop n) (us.drop n):=
 ⟨by simp [h.1],fun i c u hc hu=>h.2 (n+i) c u (by simpa using hc) (by simpa using hu)⟩
theorem qaO.take{W:World}{ok:Nat->Prop}{cs:List D}{us:List Value}(h:qaO W ok cs us)(n:Nat):qaO W ok (cs.take n) (us.take n):=by
 refine ⟨by simp [h.1],fun i c u hc hu=> ?_⟩
 rw [List.getElem?_take] at hc hu
 split at hc
 ·rename_i hi;rw [if_pos hi] at hu;exact h.2 i c u hc hu
 ·simp at hc
theorem qaO.at{W:World}{ok:Nat->Prop}{cs:List D}{us:List Value}(h:qaO W ok cs us){i:Nat}{c:D}(hc:cs[i]? =some c): ∃u,us[i]? =some u/\Den W ok c u:=by
 have hi:i<us.length:=by rw [h.1];exact (List.getElem?_eq_some_iff.1 hc).1
 exact ⟨us[i],List.getElem?_eq_getElem hi,h.2 i c _ hc (List.getElem?_eq_getElem hi)⟩
inductive S where
 |d (x:D)
 |ptr (k ver off:Nat)
 |own (k ver:Nat)
 |clo (g:FuncId) (cap:List S)
 |tup (xs:List S)
 |agg (xs:List S)
 |top
inductive B where
 |box (t:TypeId) (cs:List S)
 |row (ver:Nat) (e:TypeId) (size bytes:Nat) (xs:List D)
 |dead
 |gone
 |ghost (cs:List S)
 |loop (s:LoopState) (pend:Option Code) (ps:Array Tmp) (asg body:Code) (cs:List S)
def B.ver:B->Option (Option Nat)
 | .box .. =>some (some 0)
 | .row v .. =>some (some v)
 | .dead=>some none
 | .ghost .. =>some none
 | .loop .. =>some (some 0)
 | .gone=>none
def B.live:B->Bool
 | .gone| .dead| .ghost .. | .loop .. =>false
 |_=>true
def blk:Value->Option Nat
 | .slice (some a) _ _=>some a.block
 | .pointer (some a)=>some a.block
 |_=>none
theorem qcQ(v:Value)(e:TypeId){w:World}{base size n:Nat}{xs:List Value}(h:w.ownsRow base e size v n xs):blk v=v.ownBlock:=by
 rcases h.2 with ⟨rfl,_⟩|⟨g,cap,cur,rfl,_⟩<;>rfl
def B.gh:B->Bool
 | .ghost .. | .loop .. =>true
 |_=>false
def B.isLoop:B->Bool
 | .loop .. =>true
 |_=>false
def okT(bs:Nat->Prop)(τ:Nat->B)(ι:Nat->Value)(b:Nat):Prop:=bs b/\ ∀k,(τ k).live=true->blk (ι k)≠some b
def qap(τ:Nat->B)(k:Nat):Option (Option Nat):=(τ k).ver
def seen(vr:Nat->Option (Option Nat))(k ver:Nat):Prop:= ∃c,vr k=some c/\ ∀m,c=some m->ver<=m
theorem qaP{vr:Nat->Option (Option Nat)}{k ver:Nat}(h:vr k=some (some ver)):seen vr k ver:=⟨_,h,fun m e=>by simp at e;omega⟩
inductive qaF (W:World) (ι:Nat->Value) (vr:Nat->Option (Option Nat)) (ok:Nat->Prop):S->Value->Prop
 |d {x:D} {v:Value}:Den W ok x v->qaF W ι vr ok (.d x) v
 |ptr {k ver off:Nat} {v:Value}:seen vr k ver->(vr k=some (some ver)-> ∃b,blk (ι k)=some b/\v= .pointer (some ⟨b,off,none⟩))->qaF W ι vr ok (.ptr k ver off) v
 |own {k ver:Nat} {v:Value}:seen vr k ver->(vr k=some (some ver)->v=ι k)->qaF W ι vr ok (.own k ver) v
 |clo {g:FuncId} {cap:List S} {us:List Value}:us.length=cap.length->(∀(i:Nat) (c:S) (u:Value),cap[i]? =some c->us[i]? =some u->qaF W ι vr ok c u)->qaF W ι vr ok (.clo g cap) (.func (.func g) #[] us.toArray)
 |tup {xs:List S} {us:List Value}:us.length=xs.length->(∀(i:Nat) (c:S) (u:Value),xs[i]? =some c->us[i]? =some u->qaF W ι vr ok c u)->qaF W ι vr ok (.tup xs) (.tuple us.toArray)
 |agg {xs:List S} {us:List Value}:us.length=xs.length->(∀(i:Nat) (c:S) (u:Value),xs[i]? =some c->us[i]? =some u->qaF W ι vr ok c u)->(∀(i:Nat) (u:Value),us[i]? =some u->u.oneCell'=true)->qaF W ι vr ok (.agg xs) (.agg us.toArray)
 |top {v:Value}:qaF W ι vr ok .top v
def qao(W:World)(ι:Nat->Value)(vr:Nat->Option (Option Nat))(ok:Nat->Prop)(cs:List S)(us:List Value):Prop:=
 us.length=cs.length/\ ∀(i:Nat) (c:S) (u:Value),cs[i]? =some c->us[i]? =some u->qaF W ι vr ok c u
section
variable {W W':World} {ι ι':Nat->Value} {vr vr':Nat->Option (Option Nat)} {ok ok':Nat->Prop}
def qaX(ι ι':Nat->Value)(vr vr':Nat->Option (Option Nat)):Prop:=
 ∀k c,vr k=some c-> ∃c',vr' k=some c'/\ ∀m',c'=some m'-> ∃m,c=some m/\m<=m'/\(m=m'->ι' k=ι k)
theorem qaX.refl(ι:Nat->Value)(vr:Nat->Option (Option Nat)):qaX ι ι vr vr:=fun _ c h=>⟨c,h,fun m e=>⟨m,e,Nat.le_refl _,fun _=>rfl⟩⟩
theorem qaX.seen(h:qaX ι ι' vr vr'){k ver:Nat}(hs:seen vr k ver):Nv.seen vr' k ver:=by
 obtain ⟨c,h1,h2⟩:=hs
 obtain ⟨c',h3,h4⟩:=h k c h1
 refine ⟨c',h3,fun m hm=> ?_⟩
 obtain ⟨m0,h5,h6,_⟩:=h4 m hm
 exact Nat.le_trans (h2 m0 h5) h6
theorem qaX.now(h:qaX ι ι' vr vr'){k ver:Nat}(hs:Nv.seen vr k ver)(hn:vr' k=some (some ver)):vr k=some (some ver)/\ι' k=ι k:=by
 obtain ⟨c,h1,h2⟩:=hs
 obtain ⟨c',h3,h4⟩:=h k c h1
 rw [hn] at h3
 obtain ⟨m,h5,h6,h7⟩:=h4 ver (by simpa using h3.symm)
 have:=h2 m h5
 have e:m=ver:=by omega
 subst e
 exact ⟨by rw [h1,h5],h7 rfl⟩
theorem qaX.trans{ι'':Nat->Value}{vr'':Nat->Option (Option Nat)}(h:qaX ι ι' vr vr')(k:qaX ι' ι'' vr' vr''):qaX ι ι'' vr vr'':=by
 intro i c hc
 obtain ⟨c',h1,h2⟩:=h i c hc
 obtain ⟨c'',h3,h4⟩:=k i c' h1
 refine ⟨c'',h3,fun m'' e=> ?_⟩
 obtain ⟨m',h5,h6,h7⟩:=h4 m'' e
 obtain ⟨m,h8,h9,h10⟩:=h2 m' h5
 exact ⟨m,h8,by omega,fun e'=>by rw [h7 (by omega),h10 (by omega)]⟩
theorem qaF.keep(hb: ∀b,ok b->b<W.heap.size->W'.heap[b]? =W.heap[b]?)(hok: ∀b,ok b->b<W.heap.size->ok' b)
  (hv:qaX ι ι' vr vr') {s:S} {v:Value} (h:qaF W ι vr ok s v):qaF W' ι' vr' ok' s v:=by
 induction h with
 |d hx=>exact .d (hx.keep hb hok)
 |ptr h0 hp=>exact .ptr (hv.seen h0) fun hk=>by obtain ⟨h1,h2⟩:=hv.now h0 hk;rw [h2];exact hp h1
 |own h0 hp=>exact .own (hv.seen h0) fun hk=>by obtain ⟨h1,h2⟩:=hv.now h0 hk;rw [h2];exact hp h1
 |clo hl _ ih=>exact .clo hl ih
 |tup hl _ ih=>exact .tup hl ih
 |agg hl _ h1 ih=>exact .agg hl ih h1
 |top=>exact .top
theorem qao.keep(hb: ∀b,ok b->b<W.heap.size->W'.heap[b]? =W.heap[b]?)(hok: ∀b,ok b->b<W.heap.size->ok' b)
  (hv:qaX ι ι' vr vr') {cs:List S} {us:List Value} (h:qao W ι vr ok cs us):qao W' ι' vr' ok' cs us:=
 ⟨h.1,fun i c u hc hu=>(h.2 i c u hc hu).keep hb hok hv⟩
theorem qao.at{cs:List S}{us:List Value}(h:qao W ι vr ok cs us){i:Nat}{c:S}(hc:cs[i]? =some c):
  ∃u,us[i]? =some u/\qaF W ι vr ok c u:=by
 have hi:i<us.length:=by rw [h.1];exact (List.getElem?_eq_some_iff.1 hc).1
 exact ⟨us[i],List.getElem?_eq_getElem hi,h.2 i c _ hc (List.getElem?_eq_getElem hi)⟩
theorem qao.set{cs:List S}{us:List Value}(h:qao W ι vr ok cs us){c:S}{u:Value}(hc:qaF W ι vr ok c u)(i:Nat):
  qao W ι vr ok (cs.set i c) (us.set i u):=by
 refine ⟨by simp [h.1],fun j c' u' hc' hu'=> ?_⟩
 rw [List.getElem?_set] at hc' hu'
 split at hc'
 ·rename_i e
  rw [if_pos e] at hu'
  split at hc'
  ·split at hu'
   ·simp at hc' hu';subst hc';subst hu';exact hc
   ·simp at hu'
  ·simp at hc'
 ·rename_i e;rw [if_neg e] at hu';exact h.2 j c' u' hc' hu'
theorem qao.nil(W:World)(ι:Nat->Value)(vr:Nat->Option (Option Nat))(ok:Nat->Prop):qao W ι vr ok [] [] :=⟨rfl,fun i c u hc=>by simp at hc⟩
theorem qao.cons{c:S}{u:Value}{cs:List S}{us:List Value}(h:qaF W ι vr ok c u)(hs:qao W ι vr ok cs us):qao W ι vr ok (c::cs) (u::us):=by
 refine ⟨by simp [hs.1],fun i c' u' hc hu=> ?_⟩
 cases i with
 |zero=>simp at hc hu;subst hc;subst hu;exact h
 |succ i=>simp at hc hu;exact hs.2 i c' u' hc hu
theorem qao.nil_inv{us:List Value}(h:qao W ι vr ok [] us):us= [] :=List.eq_nil_of_length_eq_zero h.1
theorem qao.cons_inv{c:S}{cs:List S}{us:List Value}(h:qao W ι vr ok (c::cs) us): ∃u us',us=u::us'/\qaF W ι vr ok c u/\qao W ι vr ok cs us':=by
 cases us with
 |nil=>have:=h.1;simp at this
 |cons u us=>
  refine ⟨u,us,rfl,h.2 0 c u rfl rfl,by have:=h.1;simpa using this,fun i c' u' hc hu=>h.2 (i+1) c' u' (by simpa using hc) (by simpa using hu)⟩
theorem qao.append{cs ds:List S}{us vs:List Value}(h:qao W ι vr ok cs us)(k:qao W ι vr ok ds vs):qao W ι vr ok (cs++ds) (us++vs):=by
 induction cs generalizing us with
 |nil=>rw [h.nil_inv];exact k
 |cons c cs ih=>
  obtain ⟨u,us',rfl,h1,h2⟩:=h.cons_inv
  exact qao.cons h1 (ih h2)
theorem qao.drop{cs:List S}{us:List Value}(h:qao W ι vr ok cs us)(n:Nat):qao W ι vr ok (cs.drop n) (us.drop n):=
 ⟨by simp [h.1],fun i c u hc hu=>h.2 (n+i) c u (by simpa using hc) (by simpa using hu)⟩
theorem qao.take{cs:List S}{us:List Value}(h:qao W ι vr ok cs us)(n:Nat):qao W ι vr ok (cs.take n) (us.take n):=by
 refine ⟨by simp [h.1],fun i c u hc hu=> ?_⟩
 rw [List.getElem?_take] at hc hu
 split at hc
 ·rename_i hi;rw [if_pos hi] at hu;exact h.2 i c u hc hu
 ·simp at hc
theorem qao.ofDen{ds:List D}{us:List Value}(h:qaO W ok ds us):qao W ι vr ok (ds.map .d) us:=by
 refine ⟨by simp [h.1],fun i c u hc hu=> ?_⟩
 rw [List.getElem?_map] at hc
 cases hd:ds[i]? with
 |none=>simp [hd] at hc
 |some d=>simp [hd] at hc;subst hc;exact .d (h.2 i d u hd hu)
end
def qig(W:World)(old:Nat->Prop)(ι:Nat->Value)(vr:Nat->Option (Option Nat))(ok:Nat->Prop)(k:Nat):B->Prop
 | .box t cs=> ∃b us,ι k= .pointer (some ⟨b,0,none⟩)/\ ¬old b/\W.heap[b]? =some (.cells (List.toArray us) t (0,0))/\qao W ι vr ok cs us/\ ∀(i:Nat) (u:Value),us[i]? =some u->u.oneCell'=true
 | .row _ e size _ xs=> ∃us,W.ownsRow 0 e size (ι k) xs.length us/\qaO W ok (flat xs) us/\(∀(i:Nat) (u:Value),us[i]? =some u->u.oneCell'=true)/\ ∀b,blk (ι k)=some b-> ¬old b
 | .dead=>True
 | .gone=>True
 | .ghost .. =>True
 | .loop .. => ∃l,ι k= .func (.yield l) #[] #[]
structure TOk (W:World) (old bs:Nat->Prop) (ι:Nat->Value) (τ:Nat->B):Prop where
 bsn: ∀b,¬old b->bs b
 ent: ∀k,qig W old ι (qap τ) (okT bs τ ι) k (τ k)
 apart: ∀j k b,(τ j).live=true->(τ k).live=true->blk (ι j)=some b->blk (ι k)=some b->j=k
theorem TOk.blk_new{W:World}{old bs:Nat->Prop}{ι:Nat->Value}{τ:Nat->B}(h:TOk W old bs ι τ){k b:Nat}(hl:(τ k).live=true)(hb:blk (ι k)=some b): ¬old b/\b<W.heap.size:=by
 have he:=h.ent k
 cases hk:τ k with
 |box t cs=>
  rw [hk] at he
  obtain ⟨b',us,hi,hN,hh,_⟩:=he
  rw [hi] at hb;simp [blk] at hb;subst hb
  exact ⟨hN,(Array.getElem?_eq_some_iff.1 hh).1⟩
 |row ver e size bytes xs=>
  rw [hk] at he
  obtain ⟨us,ho,_,_,hn⟩:=he
  refine ⟨hn b hb, ?_⟩
  rw [qcQ _ _ ho] at hb
  exact (ho.lt b hb).2
 |dead=>rw [hk] at hl;simp [B.live] at hl
 |ghost cs=>rw [hk] at hl;simp [B.live] at hl
 |loop=>rw [hk] at hl;simp [B.live] at hl
 |gone=>rw [hk] at hl;simp [B.live] at hl
def isC:Obj->Bool
 | .cells .. =>true
 |_=>false
theorem TOk.nonpriv{W:World}{old bs:Nat->Prop}{ι:Nat->Value}{τ:Nat->B}(h:TOk W old bs ι τ){b:Nat}{o:Obj}(ho:W.heap[b]? =some o)(hc:isC o=false): ∀k,(τ k).live=true->blk (ι k)≠some b:=by
 intro k hl hb
 have he:=h.ent k
 cases hk:τ k with
 |box t cs=>
  rw [hk] at he
  obtain ⟨b',us,hi,_,hh,_⟩:=he
  rw [hi] at hb;simp [blk] at hb;subst hb
  rw [hh] at ho;cases ho;cases hc
 |row v e s bt xs=>
  rw [hk] at he
  obtain ⟨us,hown,_⟩:=he
  rcases hown.2 with ⟨hv,_⟩|⟨g,cap,cur,hv,_,hg,_⟩
  ·rw [hv] at hb;simp [blk] at hb
  ·rw [hv] at hb;simp [blk] at hb;subst hb
   rw [hg] at ho;cases ho;cases hc
 |_=>rw [hk] at hl;simp [B.live] at hl
end Go.Nv
end
section
namespace Go.Nv
open Go.RowKit
def eqV:Value->Value->Bool
 | .bool a,.bool b=>a==b
 | .int _ a,.int _ b=>a==b
 | .string a,.string b=>a==b
 |_,_=>false
def eqD:D->D->Bool
 | .v x,.v y=>eqV x y
 |_,_=>false
def qdH:List D->List D->Bool
 | [], [] =>true
 |x::xs,y::ys=>eqD x y&&qdH xs ys
 |_,_=>false
def wrV:IntKind->Int->Int
 | .u8,n=>n%256
 | .u16,n=>n%65536
 | .u32,n=>n%4294967296
 | .u64,n=>n%18446744073709551616
 |_,n=>n
def wrS:IntKind->Int->Prop
 | .i8,n=> -128<=n/\n<=127
 | .i16,n=> -32768<=n/\n<=32767
 | .i32,n=> -2147483648<=n/\n<=2147483647
 | .i64,n=> -9223372036854775808<=n/\n<=9223372036854775807
 |_,_=>True
theorem qeA(k:IntKind)(n:Int)(h:wrS k n):k.wrap n=wrV k n:=by
 cases k
 case i8|i16|i32|i64=>
  simp only [wrS] at h
  simp only [IntKind.wrap,IntKind.bits,IntKind.signed,wrV,Bool.true_and,decide_eq_true_eq,Nat.reduceSub]
  split
  ·rename_i h2;simp at h2;omega
  ·rename_i h2;simp at h2;omega
 case u8|u16|u32|u64=>simp [IntKind.wrap,IntKind.bits,IntKind.signed,wrV]
def qmp(op:BinOp):Value->Value->Option (Value×Prop)
 | .int k a,.int k' b=>
  match op with
  | .shl=>some (.int k (wrV k (a*2^(min b.toNat k.bits))),0<=b/\wrS k (a*2^(min b.toNat k.bits)))
  | .shr=>some (.int k (a.fdiv (2^(min b.toNat k.bits))),0<=b)
  | .add=>some (.int k (wrV k (a+b)),k=k'/\wrS k (a+b))
  | .sub=>some (.int k (wrV k (a-b)),k=k'/\wrS k (a-b))
  | .mul=>some (.int k (k.wrap (a*b)),k=k')
  | .quo=>some (.int k (wrV k (a.tdiv b)),(k=k'/\b≠0)/\wrS k (a.tdiv b))
  | .rem=>some (.int k (a.tmod b),k=k'/\b≠0)
  | .and=>some (.int k (k.wrap (BitVec.ofInt k.bits a&&&BitVec.ofInt k.bits b).toNat),k=k')
  | .or=>some (.int k (k.wrap (BitVec.ofInt k.bits a|||BitVec.ofInt k.bits b).toNat),k=k')
  | .xor=>some (.int k (k.wrap (BitVec.ofInt k.bits a^^^BitVec.ofInt k.bits b).toNat),k=k')
  | .andNot=>some (.int k (k.wrap (BitVec.ofInt k.bits a&&& ~~~BitVec.ofInt k.bits b).toNat),k=k')
  | .eql=>some (.bool (a==b),k=k')
  | .neq=>some (.bool (a !=b),k=k')
  | .lss=>some (.bool (decide (a<b)),k=k')
  | .leq=>some (.bool (decide (a<=b)),k=k')
  | .gtr=>some (.bool (decide (a>b)),k=k')
  | .geq=>some (.bool (decide (a>=b)),k=k')
 | .string a,.string b=>
  match op with
  | .add=>some (.string (a++b),a.size+b.size<=9223372036854775807)
  | .eql=>some (.bool (a==b),True)
  | .neq=>some (.bool (!(a==b)),True)
  | .lss=>some (.bool (Op.bytesLess a.toList b.toList),True)
  | .gtr=>some (.bool (!(Op.bytesLess a.toList b.toList||a==b)),True)
  |_=>none
 |_,_=>none
def unV(op:UnOp):Value->Option Value
 | .bool b=>match op with| .not=>some (.bool !b)|_=>none
 | .int k n=>match op with
  | .neg=>some (.int k (k.wrap (0-n)))
  | .xor=>some (.int k (k.wrap (BitVec.ofInt k.bits (if k.signed then-1 else k.max)^^^BitVec.ofInt k.bits n).toNat))
  |_=>none
 |_=>none
def kdD:D->Nat
 | .v (.bool _)=>1
 | .v (.string _)=>2
 | .v (.int .i8 _)=>3| .v (.int .i16 _)=>4| .v (.int .i32 _)=>5| .v (.int .i64 _)=>6
 | .v (.int .u8 _)=>7| .v (.int .u16 _)=>8| .v (.int .u32 _)=>9| .v (.int .u64 _)=>10
 |_=>0
def qjA:D->Value
 | .v u=>u
 |_=>undef
def StructEq(P:Program)(t:TypeId)(ks:List Nat):Prop:=
 0∉ks/\ ∀(ds es:List D) (w:World) (x y:Operand),ds.map kdD=ks->es.map kdD=ks->
  (eqGuard .eql t x y (.agg (ds.map qjA).toArray) (.agg (es.map qjA).toArray)).run P w= .ok () w/\
  (eqGuard .neq t x y (.agg (ds.map qjA).toArray) (.agg (es.map qjA).toArray)).run P w= .ok () w/\
  (binOp .eql t (.agg (ds.map qjA).toArray) (.agg (es.map qjA).toArray)).run P w= .ok (.bool (qdH ds es)) w/\
  (binOp .neq t (.agg (ds.map qjA).toArray) (.agg (es.map qjA).toArray)).run P w= .ok (.bool (!qdH ds es)) w
def qaD(P:Program)(t:TypeId):Bool:=match P.underlying t with|some (.struct _)|some (.array _ _)=>true|_=>false
def qdf(P:Program)(t:TypeId)(cs:List D)(off:Nat):Option D:=
 if qaD P t then (if off+P.cellsOf t<=cs.length then some (.a ((cs.drop off).take (P.cellsOf t))) else none) else cs[off]?
def qdV:List S->Option (List D)
 | [] =>some []
 | .d x::ss=>(qdV ss).map (x:: ·)
 |_=>none
def qnS(ss:List S):S:=match qdV ss with|some ds=> .d (.a ds)|none=> .agg ss
def qfN(P:Program)(t:TypeId)(cs:List S)(off:Nat):Option S:=
 if qaD P t then (if off+P.cellsOf t<=cs.length then some (qnS ((cs.drop off).take (P.cellsOf t))) else none) else cs[off]?
def qbZ(P:Program)(s:TypeId)(f:Nat):Option (Nat×TypeId):=
 match P.underlying s with
 |some (.struct fs)=>(fs[f]?).map fun x=>(x.offset,x.type)
 |_=>none
def qbv(P:Program)(t:TypeId):Option TypeId:=match P.underlying t with|some (.slice e)=>some e|_=>none
def toD:Value->Option D
 | .slice none 0 0=>some (.l [])
 |v=>if qnC v then some (.v v) else none
def qv6(v:Value):Option D:=if qnC v then some (.v v) else none
def zeroCells(P:Program)(t:TypeId):Option (List D):=
 match (P.info? t).bind (·.zero) with
 |some z=>z.cells.toList.mapM qv6
 |none=>none
def S.cells:S->List S
 | .d x=>x.cells.map .d
 | .agg xs=>xs
 |s=> [s]
def qlc(vr:Nat->Option (Option Nat)):S->Bool
 | .d x=>match x with| .a _=>false|_=>true
 | .ptr k n _=>vr k==some (some n)
 | .own k n=>vr k==some (some n)
 | .clo _ _=>true
 |_=>false
def okS(vr:Nat->Option (Option Nat)):S->Bool
 | .d _=>true
 |s=>s.cells.all (qlc vr)
def splice(cs:List S)(off:Nat)(ds:List S):List S:=cs.take off++ds++cs.drop (off+ds.length)
def qdh(size:Nat)(xs:List D)(off:Nat)(ds:List D):Option (List D):=
 let i:=off/size
 let r:=off%size
 match xs[i]? with
 |some (.a cs)=>if r+ds.length<=size then some (xs.set i (.a (cs.take r++ds++cs.drop (r+ds.length)))) else none
 |some _=>match ds with| [d] =>some (xs.set i d)|_=>none
 |none=>none
def Uni(size:Nat)(xs:List D):Prop:= ∀x∈xs,x.cells.length=size
def qcr(xs:List D)(l h:Nat):List D:=(xs.take h).drop l
structure Eff where
 val:S
 upd:Option (Nat×B):=none
 side:Prop:=True
def S.tch:S->Option Nat
 | .ptr k _ _=>some k
 | .own k _=>some k
 |_=>none
def bt(s:ByteArray)(i:Int):Int:=if h:i.toNat<s.size then ((s[i.toNat]'h).toNat:Int) else 0
def qd8(P:Program)(e:TypeId)(size bytes:Nat):Prop:= ∃i z,P.info? e=some i/\i.zero=some z/\i.size=size/\i.bytes=bytes/\z.cells.size=size
def qfb(ρ:Operand->S):Option Operand->Int->Option Int
 |none,n=>some n
 |some x,_=>match ρ x with| .d (.v (.int _ n))=>some n|_=>none
def qdw(P:Program)(t:TypeId):Option IntKind:=match P.underlying t with|some (.int k)=>some k|_=>none
def plcs(P:Program)(t:TypeId):Option (List (Nat×Nat)):=
 match P.info? t,P.underlying t with
 |some it,some (.array n e)=>match it.zero,P.info? e with
  |some _,some ie=>some ((List.range n).map fun i=>(i*ie.size,ie.size))
  |_,_=>none
 |some it,some (.struct fields)=>match it.zero,fields.toList.mapM (fun f=>(P.info? f.type).map fun i=>(f.offset,i.size)) with
  |some _,some places=>some places
  |_,_=>none
 |_,_=>none
def qgt(pl:List (Nat×Nat)):List (Nat×S)->List S->Option (List S)
 | [],cs=>some cs
 |(i,s)::ps,cs=>match pl[i]? with
  |some (o,n)=>if s.cells.length=n/\o+s.cells.length<=cs.length then qgt pl ps (splice cs o s.cells) else none
  |none=>none
def mx(a b:Int):Int:=if a<b then b else a
def mx3(a b c:Int):Int:=mx (mx a b) c
def mx4(a b c d:Int):Int:=mx (mx (mx a b) c) d
def opA(P:Program)(k0:Nat)(mu:Bool)(ρ:Operand->S)(τ:Nat->B)(ty:TypeId):Op->Option Eff
 | .move x=>some {val:=ρ x}
 | .assign x=>
  match x with
  | .const (.slice none 0 0)=>
   match qbv P ty with
   |some e=>some {val:= .own k0 0,upd:=some (k0,.row 0 e (P.cellsOf e) (P.bytesOf e) [])}
   |none=>none
  |_=>some {val:=ρ x}
 | .pick c a b=>match ρ c with| .d (.v (.bool z))=>some {val:=if z then ρ a else ρ b}|_=>none
 | .alloc e=>match zeroCells P e with|some zs=>some {val:= .ptr k0 0 0,upd:=some (k0,.box e (zs.map .d)),side:=zs.isEmpty=false}|none=>none
 | .box e x=>match mu,ρ x with
  |false,.d y=>some {val:= .d (.p 0 y.cells),side:=y.cells.isEmpty=false}
  |_,s=>some {val:= .ptr k0 0 0,upd:=some (k0,.box e s.cells),side:=s.cells.isEmpty=false/\okS (qap τ) s=true}
 | .build t ps=>match plcs P t,zeroCells P t with
  |some pl,some zs=>(qgt pl (ps.toList.map fun x=>(x.1,ρ x.2)) (zs.map .d)).map fun cs=>{val:=qnS cs,side:=(ps.toList.all fun x=>okS (qap τ) (ρ x.2))=true}
  |_,_=>none
 | .load ty' x=>if (P.underlying ty').isSome=true then match ρ x with
  | .d (.p off cs)=>(qdf P ty' cs off).map fun d=>{val:= .d d}
  | .ptr k ver off=>match τ k with
   | .box _ cs=>if ver=0 then (qfN P ty' cs off).map fun s=>{val:=s} else none
   | .row v e size _ xs=>if ver=v then (qdf P ty' (flat xs) off).map fun d=>{val:= .d d} else none
   |_=>none
  |_=>none
  else none
 | .store ty' x y=>if (P.underlying ty').isSome=true then match ρ x with
  | .ptr k ver off=>match τ k with
   | .box bt cs=>
    if ver=0/\off+(ρ y).cells.length<=cs.length then
     some {val:= .top,upd:=some (k,.box bt (splice cs off (ρ y).cells)),side:=(ρ y).cells.length=P.cellsOf ty'/\okS (qap τ) (ρ y)=true}
    else none
   | .row v e size bytes xs=>
    match ρ y with
    | .d d=>if ver=v then (qdh size xs off d.cells).map fun xs'=>{val:= .top,upd:=some (k,.row v e size bytes xs'),side:=d.cells.length=P.cellsOf ty'/\Uni size xs/\0<size} else none
    |_=>none
   |_=>none
  |_=>none
  else none
 | .fieldAddr s x f=>match qbZ P s f with
  |some (o,ft)=>match ρ x with
   | .d (.p off cs)=>some {val:= .d (.p (off+o) cs),side:=P.cellsOf ft≠0}
   | .ptr k ver off=>some {val:= .ptr k ver (off+o),side:=P.cellsOf ft≠0/\qap τ k=some (some ver)}
   |_=>none
  |none=>none
 | .field s x f=>match qbZ P s f with
  |some (o,ft)=>if (P.underlying ft).isSome=true then match ρ x with
   | .d (.a cs)=>(qdf P ft cs o).map fun d=>{val:= .d d}
   | .agg cs=>(qfN P ft cs o).map fun s=>{val:=s}
   |_=>none
   else none
  |none=>none
 | .extract x i=>match ρ x with| .tup xs=>(xs[i]?).map fun s=>{val:=s}|_=>none
 | .binOp op xt x y _=>match ρ x,ρ y with
  | .d (.v a),.d (.v b)=>match a,b with
   | .bool x,.bool y=>match op with
    | .eql=>some {val:= .d (.v (.bool (x==y))),side:=P.underlying xt=some .bool}
    | .neq=>some {val:= .d (.v (.bool (!(x==y)))),side:=P.underlying xt=some .bool}
    |_=>none
   |_,_=>(qmp op a b).map fun r=>{val:= .d (.v r.1),side:=r.2}
  | .d (.a as),.d (.a bs)=>match op with
   | .eql=>some {val:= .d (.v (.bool (qdH as bs))),side:=StructEq P xt (as.map kdD)/\as.map kdD=bs.map kdD}
   | .neq=>some {val:= .d (.v (.bool (!qdH as bs))),side:=StructEq P xt (as.map kdD)/\as.map kdD=bs.map kdD}
   |_=>none
  | .d (.l ds),.d (.v (.slice none 0 0))=>match op with
   | .eql=>some {val:= .d (.v (.bool false)),side:=ds≠ [] /\ ∃e,P.underlying xt=some (.slice e)}
   | .neq=>some {val:= .d (.v (.bool true)),side:=ds≠ [] /\ ∃e,P.underlying xt=some (.slice e)}
   |_=>none
  |_,_=>none
 | .unOp op _ x=>match ρ x with| .d (.v a)=>(unV op a).map fun r=>{val:= .d (.v r)}|_=>none
 | .nilCheck x=>match ρ x with
  | .d (.p off cs)=>some {val:= .d (.p off cs)}
  | .ptr k ver off=>some {val:= .ptr k ver off,side:=qap τ k=some (some ver)}
  | .d (.f g cap)=>some {val:= .d (.f g cap)}
  |_=>none
 | .index xt x i=>match ρ x,ρ i with
  | .d (.v (.string s)),.d (.v (.int _ n))=>some {val:= .d (.v (.int .u8 (bt s n))),side:=0<=n/\n<s.size/\P.underlying xt=some .string}
  |_,_=>none
 | .indexAddr xt x i=>match ρ x,ρ i,qbv P xt with
  | .d (.l xs),.d (.v (.int _ n)),some e=>(xs[n.toNat]?).map fun x=>{val:= .d (.p 0 x.cells),side:=0<=n/\Uni (P.cellsOf e) xs/\0<P.cellsOf e}
  | .own k ver,.d (.v (.int _ n)),some e=>match τ k with
   | .row v e' size _ xs=>some {val:= .ptr k ver (n.toNat*size),side:=ver=v/\size=P.cellsOf e/\0<=n/\n<xs.length/\Uni size xs/\0<size}
   |_=>none
  |_,_,_=>none
 | .makeFunc (.func g) first cap=>if first= #[] then some {val:=match qdV (cap.toList.map ρ) with|some ds=> .d (.f g ds)|none=> .clo g (cap.toList.map ρ)} else none
 | .call {callee:= .builtin .len,args,argTypes}=>match args.toList,argTypes.toList with
  | [x], [t] =>match ρ x with
   | .d (.l xs)=>some {val:= .d (.v (.int .i64 xs.length)),side:=(qbv P t).isSome=true}
   | .d (.v (.string s))=>some {val:= .d (.v (.int .i64 s.size)),side:=P.underlying t=some .string}
   | .own k ver=>match τ k with
    | .row v _ _ _ xs=>some {val:= .d (.v (.int .i64 xs.length)),side:=ver=v/\(qbv P t).isSome=true}
    |_=>none
   |_=>none
  |_,_=>none
 | .call {callee:= .builtin .append,args,argTypes}=>match args.toList,argTypes.toList with
  | [s,x], [t,t'] =>match ρ s,ρ x,qbv P t with
   | .own k ver,.d (.l ys),some e=>match τ k with
    | .row v e' size bytes xs=>if t=t'/\ver=v/\e=e' then
      some {val:= .own k (v+1),upd:=some (k,.row (v+1) e size bytes (xs++ys)),side:=qd8 P e size bytes/\0<size/\Uni size xs/\Uni size ys/\xs.length+ys.length<=maxLen/\(xs.length+ys.length)*bytes<=140737488355328} else none
    |_=>none
   |_,_,_=>none
  |_,_=>none
 | .call {callee:= .builtin .max,args,.. }=>match args.toList with
  | [x,y] =>match ρ x,ρ y with
   | .d (.v (.int k a)),.d (.v (.int k' b))=>some {val:= .d (.v (.int k (if a<b then b else a))),side:=k=k'}
   |_,_=>none
  | [x,y,z] =>match ρ x,ρ y,ρ z with
   | .d (.v (.int k a)),.d (.v (.int k1 b)),.d (.v (.int k2 c))=>some {val:= .d (.v (.int k (mx3 a b c))),side:=k=k1/\k=k2}
   |_,_,_=>none
  | [x,y,z,u] =>match ρ x,ρ y,ρ z,ρ u with
   | .d (.v (.int k a)),.d (.v (.int k1 b)),.d (.v (.int k2 c)),.d (.v (.int k3 f))=>some {val:= .d (.v (.int k (mx4 a b c f))),side:=k=k1/\k=k2/\k=k3}
   |_,_,_,_=>none
  |_=>none
 | .buildSlice t n parts=>match qbv P t,qdV ((parts.toList.map (·.2)).map ρ) with
  |some e,some ds=>
   if parts.toList.map (·.1)=List.range n then
    some {val:=if mu then .own k0 0 else .d (.l ds),upd:=if mu then some (k0,.row 0 e (P.cellsOf e) (P.bytesOf e) ds) else none,side:=qd8 P e (P.cellsOf e) (P.bytesOf e)/\0<P.cellsOf e/\Uni (P.cellsOf e) ds/\n*P.cellsOf e<=16777216}
   else none
  |_,_=>none
 | .makeSlice t l c=>match qbv P t,ρ l,ρ c with
  |some e,.d (.v (.int _ n)),.d (.v (.int _ m))=>match zeroCells P e with
   |some zs=>some {val:= .own k0 0,upd:=some (k0,.row 0 e (P.cellsOf e) (P.bytesOf e) (List.replicate n.toNat (if qaD P e then .a zs else zs.headD (.v undef)))),side:=qd8 P e (P.cellsOf e) (P.bytesOf e)/\0<P.cellsOf e/\(qaD P e=false->zs.length=1)/\0<=n/\n<=m/\m<=maxLen/\(P.bytesOf e:Int)*m<=281474976710656}
   |none=>none
  |_,_,_=>none
 | .slice xt x lo hi none=>match ρ x with
  | .d (.v (.string s))=>match qfb ρ lo 0,qfb ρ hi s.size with
   |some l,some h=>some {val:= .d (.v (.string (s.extract l.toNat h.toNat))),side:=0<=l/\l<=h/\h<=s.size/\P.underlying xt=some .string}
   |_,_=>none
  | .d (.l xs)=>match qfb ρ lo 0,qfb ρ hi xs.length,qbv P xt with
   |some l,some h,some e=>some {val:= .d (.l (qcr xs l.toNat h.toNat)),side:=0<=l/\l<=h/\h<=xs.length/\Uni (P.cellsOf e) xs/\0<P.cellsOf e}
   |_,_,_=>none
  |_=>none
 | .convert src dst x=>match ρ x with
  | .d (.v (.int _ n))=>match qdw P dst with
   |some k=>some {val:= .d (.v (.int k (wrV k n))),side:=(P.underlying src).isSome=true/\wrS k n}
   |none=>none
  |_=>none
 |_=>none
def qf9(xs:List D):ByteArray:=⟨(xs.map fun d=>match d with| .v (.int _ n)=>UInt8.ofNat n.toNat|_=>0).toArray⟩
def qiY(xs:List D):Prop:= ∀x∈xs,∃n,x= .v (.int .u8 n)
def qfK(P:Program)(t:TypeId):Prop:= ∃e,P.underlying t=some (.slice e)/\P.underlying e=some (.int .u8)
def qoV(P:Program)(t:TypeId):Option (Nat×TypeId):=match P.underlying t with|some (.array n e)=>some (n,e)|_=>none
def strD(s:ByteArray):List D:=s.data.toList.map fun b=> .v (.int .u8 (b.toNat:Int))
def opE(P:Program)(ρ:Operand->S)(τ:Nat->B):Op->Option Eff
 | .convert src dst x=>match ρ x with
  | .d (.v (.string s))=>some {val:= .d (.l (strD s)),side:=P.underlying src=some .string/\qfK P dst/\s.size<=maxLen}
  | .d (.l xs)=>some {val:= .d (.v (.string (qf9 xs))),side:=qfK P src/\P.underlying dst=some .string/\qiY xs}
  | .own k ver=>match τ k with
   | .row v _ size _ xs=>some {val:= .d (.v (.string (qf9 xs))),side:=ver=v/\size=1/\qfK P src/\P.underlying dst=some .string/\qiY xs}
   |_=>none
  |_=>none
 | .indexAddr xt x i=>match qoV P xt,ρ i with
  |some (len,e),.d (.v (.int _ n))=>match ρ x with
   | .ptr k ver off=>some {val:= .ptr k ver (off+n.toNat*P.cellsOf e),side:=0<=n/\n<len/\P.cellsOf e≠0/\qap τ k=some (some ver)}
   | .d (.p off cs)=>some {val:= .d (.p (off+n.toNat*P.cellsOf e) cs),side:=0<=n/\n<len/\P.cellsOf e≠0}
   |_=>none
  |_,_=>none
 | .index xt x i=>match qoV P xt,ρ x,ρ i with
  |some (len,e),.d (.a cs),.d (.v (.int _ n))=>(qdf P e cs (n.toNat*P.cellsOf e)).map fun d=>{val:= .d d,side:=0<=n/\n<len/\P.cellsOf e≠0/\(P.underlying e).isSome=true}
  |_,_,_=>none
 | .slice xt x lo hi none=>match ρ x with
  | .ptr k ver 0=>match τ k,qoV P xt with
   | .box _ cs,some (len,e)=>match qdV cs,qfb ρ lo 0,qfb ρ hi len with
    |some ds,some l,some h=>some {val:= .d (.l (qcr ds l.toNat h.toNat)),upd:=some (k,.dead),side:=ver=0/\0<=l/\l<=h/\h<=len/\ds.length=len/\P.cellsOf e=1/\(∀x∈ds,x.cells= [x])/\0<len/\len<=maxLen}
    |_,_,_=>none
   |_,_=>none
  | .own k ver=>match τ k,qbv P xt with
   | .row v _ size _ xs,some e=>match qfb ρ lo 0,qfb ρ hi xs.length with
    |some l,some h=>some {val:= .d (.l (qcr xs l.toNat h.toNat)),upd:=some (k,.dead),side:=ver=v/\size=P.cellsOf e/\0<=l/\l<=h/\h<=xs.length/\Uni size xs/\0<size}
    |_,_=>none
   |_,_=>none
  |_=>none
 | .call {callee:= .builtin .copy,args,argTypes}=>match args.toList,argTypes.toList with
  | [x,y], [t,t'] =>match ρ x,ρ y,qbv P t with
   | .own k ver,.d (.l ys),some e=>match τ k with
    | .row v e' size bytes xs=>if ver=v/\e=e' then some {val:= .d (.v (.int .i64 ys.length)),upd:=some (k,.row v e size bytes ys),side:=qd8 P e size bytes/\0<size/\Uni size xs/\Uni size ys/\xs.length=ys.length} else none
    |_=>none
   |_,_,_=>none
  |_,_=>none
 | .call {callee:= .builtin .min,args,.. }=>match args.toList with
  | [x,y] =>match ρ x,ρ y with
   | .d (.v (.int k a)),.d (.v (.int k' b))=>some {val:= .d (.v (.int k (if b<a then b else a))),side:=k=k'}
   |_,_=>none
  |_=>none
 |_=>none
def opS(P:Program)(k0:Nat)(mu:Bool)(ρ:Operand->S)(τ:Nat->B)(ty:TypeId)(op:Op):Option Eff:=
 match opA P k0 mu ρ τ ty op with
 |some e=>some e
 |none=>opE P ρ τ op
theorem qdx{P:Program}{k0:Nat}{mu:Bool}{ρ:Operand->S}{τ:Nat->B}{ty:TypeId}{op:Op}{e:Eff}(h:opA P k0 mu ρ τ ty op=some e):opS P k0 mu ρ τ ty op=some e:=by simp [opS,h]
theorem qpQ{P:Program}{k0:Nat}{mu:Bool}{ρ:Operand->S}{τ:Nat->B}{ty:TypeId}{op:Op}{e:Eff}(h:opS P k0 mu ρ τ ty op=some e):opA P k0 mu ρ τ ty op=some e\/opE P ρ τ op=some e:=by
 unfold opS at h
 split at h
 ·rename_i e' he;simp at h;subst h;exact .inl he
 ·exact .inr h
end Go.Nv
end
section
namespace Go.Nv
open Go.RowKit
def at_{α:Type}(f:Nat->α)(k:Nat)(x:α)(j:Nat):α:=if j=k then x else f j
theorem qam{α:Type}(f:Nat->α)(k:Nat)(x:α):at_ f k x k=x:=by simp [at_]
theorem qa6{α:Type}(f:Nat->α){k j:Nat}(x:α)(h:j≠k):at_ f k x j=f j:=by simp [at_,h]
structure Fr (old:Nat->Prop) (W W':World):Prop where
 os:W'.os=W.os
 tape:W'.tape=W.tape
 output:W'.output=W.output
 size:W.heap.size<=W'.heap.size
 block: ∀b,old b->W'.heap[b]? =W.heap[b]?
 loops: ∀(b:Nat) (rec:Loop),W.heap[b]? =some (Obj.loop rec)-> ∃rec',W'.heap[b]? =some (Obj.loop rec')
theorem Fr.refl(old:Nat->Prop)(W:World):Fr old W W:=⟨rfl,rfl,rfl,Nat.le_refl _,fun _ _=>rfl,fun _ rec h=>⟨rec,h⟩⟩
theorem Fr.trans{old:Nat->Prop}{W W' W'':World}(h:Fr old W W')(k:Fr old W' W''):Fr old W W'':=
 ⟨k.os.trans h.os,k.tape.trans h.tape,k.output.trans h.output,Nat.le_trans h.size k.size,fun b hb=>(k.block b hb).trans (h.block b hb),fun b rec hb=>let ⟨r1,h1⟩:=h.loops b rec hb;k.loops b r1 h1⟩
def qbO(old:Nat->Prop)(W:World):Prop:= ∀b,old b->b<W.heap.size
theorem qbO.step{old:Nat->Prop}{W W':World}(h:qbO old W)(k:W.heap.size<=W'.heap.size):qbO old W':=fun b hb=>Nat.lt_of_lt_of_le (h b hb) k
structure qaw (old bs:Nat->Prop) (W:World) (ι:Nat->Value) (τ:Nat->B) (W':World) (ι':Nat->Value) (τ':Nat->B):Prop where
 fr:Fr old W W'
 tok:TOk W' old bs ι' τ'
 keep: ∀b,okT bs τ ι b->b<W.heap.size->W'.heap[b]? =W.heap[b]?
 ok: ∀b,okT bs τ ι b->b<W.heap.size->okT bs τ' ι' b
 ver:qaX ι ι' (qap τ) (qap τ')
 gh: ∀k,(τ' k).gh=true->τ' k=τ k
section
variable {old bs:Nat->Prop} {W W' W'':World} {ι ι' ι'':Nat->Value} {τ τ' τ'':Nat->B}
theorem qaw.refl(h:TOk W old bs ι τ):qaw old bs W ι τ W ι τ:=⟨Fr.refl _ _,h,fun _ _ _=>rfl,fun _ h _=>h,qaX.refl _ _,fun _ _=>rfl⟩
theorem qaw.trans(h:qaw old bs W ι τ W' ι' τ')(k:qaw old bs W' ι' τ' W'' ι'' τ''):qaw old bs W ι τ W'' ι'' τ'' where
 fr:=h.fr.trans k.fr
 tok:=k.tok
 keep b hb hl:=(k.keep b (h.ok b hb hl) (Nat.lt_of_lt_of_le hl h.fr.size)).trans (h.keep b hb hl)
 ok b hb hl:=k.ok b (h.ok b hb hl) (Nat.lt_of_lt_of_le hl h.fr.size)
 ver:=h.ver.trans k.ver
 gh j hj:=(k.gh j hj).trans (h.gh j (by rw [<-k.gh j hj];exact hj))
theorem qaw.sden(h:qaw old bs W ι τ W' ι' τ'){s:S}{v:Value}(hs:qaF W ι (qap τ) (okT bs τ ι) s v):qaF W' ι' (qap τ') (okT bs τ' ι') s v:=
 hs.keep h.keep h.ok h.ver
theorem qaw.sdenL(h:qaw old bs W ι τ W' ι' τ'){s:List S}{v:List Value}(hs:qao W ι (qap τ) (okT bs τ ι) s v):qao W' ι' (qap τ') (okT bs τ' ι') s v:=
 hs.keep h.keep h.ok h.ver
theorem qaw.denL(h:qaw old bs W ι τ W' ι' τ'){s:List D}{v:List Value}(hs:qaO W (okT bs τ ι) s v):qaO W' (okT bs τ' ι') s v:=
 hs.keep h.keep h.ok
theorem qnE(hN:qbO old W){row:Option Nat}(hg:W.grownBy W' row)(hr: ∀k,row=some k-> ¬old k/\ ∀rec:Loop,W.heap[k]? ≠some (Obj.loop rec)):Fr old W W':=
 ⟨hg.os,hg.tape,hg.output,hg.size,fun b hb=>hg.block b (hN b hb) fun e=>(hr b e.symm).1 hb,fun b rec hb=>⟨rec,(hg.block b (Array.getElem?_eq_some_iff.1 hb).1 fun e=>(hr b e.symm).2 rec hb).trans hb⟩⟩
theorem qig.keep{vr vr':Nat->Option (Option Nat)}{ok ok':Nat->Prop}{k:Nat}{e:B}(h:qig W old ι vr ok k e)
  (hkeep: ∀b,ok b->b<W.heap.size->W'.heap[b]? =W.heap[b]?) (hok: ∀b,ok b->b<W.heap.size->ok' b) (hv:qaX ι ι' vr vr')
  (hi:ι' k=ι k) (hown: ∀b,e.live=true->blk (ι k)=some b->W'.heap[b]? =W.heap[b]?):qig W' old ι' vr' ok' k e:=by
 cases e with
 |box t cs=>
  obtain ⟨b,us,h1,h2,h3,h4,h5⟩:=h
  exact ⟨b,us,hi.trans h1,h2,(hown b rfl (by rw [h1];rfl)).trans h3,h4.keep hkeep hok hv,h5⟩
 |row ver e size bytes xs=>
  obtain ⟨us,h1,h2,h4,h3⟩:=h
  refine ⟨us, ?_,h2.keep hkeep hok,h4,by rw [hi];exact h3⟩
  rw [hi]
  refine ⟨h1.1, ?_⟩
  rcases h1.2 with hn|⟨g,cap,cur,hv',hb,hgg,rest⟩
  ·exact .inl hn
  ·exact .inr ⟨g,cap,cur,hv',hb,(hown g rfl (by rw [hv'];rfl)).trans hgg,rest⟩
 |dead=>trivial
 |ghost cs=>trivial
 |loop=>obtain ⟨l,hl⟩:=h;exact ⟨l,hi.trans hl⟩
 |gone=>trivial
theorem TOk.upd(h:TOk W old bs ι τ)(hN:qbO old W)(k:Nat)(nb:B)(v':Value){row:Option Nat}(hg:W.grownBy W' row)
  (hrow: ∀b,row=some b->(τ k).live=true/\blk (ι k)=some b)
  (hnew: ∀b,nb.live=true->blk v'=some b->(W.heap.size<=b\/((τ k).live=true/\blk (ι k)=some b)))
  (hver: ∀c,(τ k).ver=some c-> ∃c',nb.ver=some c'/\ ∀m',c'=some m'-> ∃m,c=some m/\m<=m'/\(m=m'->v'=ι k))
  (hent:(∀b,okT bs τ ι b->b<W.heap.size->W'.heap[b]? =W.heap[b]?)->(∀b,okT bs τ ι b->b<W.heap.size->okT bs (at_ τ k nb) (at_ ι k v') b)->
   qaX ι (at_ ι k v') (qap τ) (qap (at_ τ k nb))->qig W' old (at_ ι k v') (qap (at_ τ k nb)) (okT bs (at_ τ k nb) (at_ ι k v')) k nb) (hgh:nb.gh=false:=by rfl):
  qaw old bs W ι τ W' (at_ ι k v') (at_ τ k nb):=by
 have hkeep: ∀b,okT bs τ ι b->b<W.heap.size->W'.heap[b]? =W.heap[b]? :=fun b hb hl=>
  hg.block b hl fun e=>by obtain ⟨h1,h2⟩:=hrow b e.symm;exact hb.2 k h1 h2
 have hok: ∀b,okT bs τ ι b->b<W.heap.size->okT bs (at_ τ k nb) (at_ ι k v') b:=by
  intro b hb hl
  refine ⟨hb.1,fun j hj hbj=> ?_⟩
  by_cases e:j=k
  ·subst e
   rw [qam] at hj hbj
   rcases hnew b hj hbj with h1|⟨h1,h2⟩
   ·omega
   ·exact hb.2 j h1 h2
  ·rw [qa6 _ _ e] at hj hbj
   exact hb.2 j hj hbj
 have hv:qaX ι (at_ ι k v') (qap τ) (qap (at_ τ k nb)):=by
  intro j c hj
  unfold qap at*
  by_cases e:j=k
  ·subst e;rw [qam,qam];exact hver c hj
  ·rw [qa6 _ _ e,qa6 _ _ e];exact ⟨c,hj,fun m hm=>⟨m,hm,Nat.le_refl _,fun _=>rfl⟩⟩
 refine ⟨qnE hN hg fun b hb=> ?_,⟨h.bsn,fun j=> ?_, ?_⟩,hkeep,hok,hv,fun j hj=> ?_⟩
 ·obtain ⟨h1,h2⟩:=hrow b hb;exact ⟨(h.blk_new h1 h2).1,fun rec e=>h.nonpriv e rfl k h1 h2⟩
 ·by_cases e:j=k
  ·subst e;have:=hent hkeep hok hv;rwa [qam]
  ·rw [qa6 _ _ e]
   refine (h.ent j).keep hkeep hok hv (qa6 _ _ e) fun b hl hb=>hg.block b (h.blk_new hl hb).2 fun e'=> ?_
   obtain ⟨h1,h2⟩:=hrow b e'.symm
   exact e (h.apart j k b hl h1 hb h2)
 ·intro i j b hi hj hbi hbj
  by_cases ei:i=k
  ·by_cases ej:j=k
   ·rw [ei,ej]
   ·subst ei
    rw [qam] at hi hbi
    rw [qa6 _ _ ej] at hj hbj
    rcases hnew b hi hbi with h1|⟨h1,h2⟩
    ·have:=(h.blk_new hj hbj).2;omega
    ·exact h.apart i j b h1 hj h2 hbj
  ·by_cases ej:j=k
   ·subst ej
    rw [qam] at hj hbj
    rw [qa6 _ _ ei] at hi hbi
    rcases hnew b hj hbj with h1|⟨h1,h2⟩
    ·have:=(h.blk_new hi hbi).2;omega
    ·exact h.apart i j b hi h1 hbi h2
   ·rw [qa6 _ _ ei] at hi hbi
    rw [qa6 _ _ ej] at hj hbj
    exact h.apart i j b hi hj hbi hbj
 ·by_cases e:j=k
  ·subst e;rw [qam,hgh] at hj;simp at hj
  ·exact qa6 _ _ e
theorem TOk.quiet(h:TOk W old bs ι τ)(hN:qbO old W)(hg:W.grownBy W' none):qaw old bs W ι τ W' ι τ:=by
 have hkeep: ∀b,b<W.heap.size->W'.heap[b]? =W.heap[b]? :=fun b hl=>hg.block b hl (by simp)
 refine ⟨qnE hN hg (by simp),⟨h.bsn,fun j=> ?_,h.apart⟩,fun b _ hl=>hkeep b hl,fun b hb _=>hb,qaX.refl _ _,fun _ _=>rfl⟩
 exact (h.ent j).keep (fun b _ hl=>hkeep b hl) (fun b hb _=>hb) (qaX.refl _ _) rfl fun b hl hb=>hkeep b (h.blk_new hl hb).2
theorem qaK(hb:Below W.heap.size W W'):W.grownBy W' none:=⟨hb.os,hb.tape,hb.output,hb.size,fun k hk _=>hb.block k hk⟩
end
theorem TOk.newBox{old bs:Nat->Prop}{W:World}{ι:Nat->Value}{τ:Nat->B}(h:TOk W old bs ι τ)(hN:qbO old W)(k:Nat)(hk:τ k= .gone)(t:TypeId)(cs:List S)(us:List Value)
  (hs:qao W ι (qap τ) (okT bs τ ι) cs us) (h1: ∀(i:Nat) (u:Value),us[i]? =some u->u.oneCell'=true):
  qaw old bs W ι τ (W.alloc (.cells us.toArray t)) (at_ ι k (.pointer (some ⟨W.heap.size,0,none⟩))) (at_ τ k (.box t cs)):=
 h.upd hN k _ _ (row:=none) (World.grownBy_alloc W _ none) (by simp) (by simp [blk])
  (by intro c hn;rw [hk] at hn;simp [B.ver] at hn)
  (fun hkeep hok hv=>⟨W.heap.size,us,qam _ _ _,(fun ho=>absurd (hN _ ho) (by omega)),heap_alloc_new W _,hs.keep hkeep hok hv,h1⟩)
theorem TOk.newNil{old bs:Nat->Prop}{W:World}{ι:Nat->Value}{τ:Nat->B}(h:TOk W old bs ι τ)(hN:qbO old W)(k:Nat)(hk:τ k= .gone)(ver:Nat)(e:TypeId)(size bytes:Nat):
  qaw old bs W ι τ W (at_ ι k (.slice none 0 0)) (at_ τ k (.row ver e size bytes [])):=
 h.upd hN k _ _ (row:=none) ⟨rfl,rfl,rfl,Nat.le_refl _,fun _ _ _=>rfl⟩ (by simp) (by simp [blk])
  (by intro c hn;rw [hk] at hn;simp [B.ver] at hn)
  (fun hkeep hok hv=>⟨[],by rw [qam];exact World.ownsRow_nil W 0 e size,qaO.nil _ _,by simp,by rw [qam];simp [blk]⟩)
end Go.Nv
end
section
namespace Go.Nv
open Go.RowKit
section
variable {P:Program} {W:World} {ρ:Operand->Value} {o:Oper}
theorem run_move{x:Operand}(ho:o.op= .move x):(execOp ρ o).run P W= .ok (.value (ρ x)) W:=by simp [execOp,ho,go_sem]
theorem run_assign{x:Operand}(ho:o.op= .assign x):(execOp ρ o).run P W= .ok (.value (ρ x)) W:=by simp [execOp,ho,go_sem]
theorem qsf{c x y:Operand}{z:Bool}(ho:o.op= .pick c x y)(hc:ρ c= .bool z):(execOp ρ o).run P W= .ok (.value (if z then ρ x else ρ y)) W:=by
 simp [execOp,ho,go_sem,hc]
theorem qu9{e:TypeId}{x:Operand}(ho:o.op= .box e x):(execOp ρ o).run P W= .ok (.value (.pointer (some ⟨W.heap.size,0,none⟩))) (W.alloc (.cells (ρ x).cells e)):=by
 simp [execOp,ho,go_sem,Instr.box]
theorem qpd{e:TypeId}{i:TypeInfo}{z:Value}(ho:o.op= .alloc e)(hi:P.info? e=some i)(hz:i.zero=some z):
  (execOp ρ o).run P W= .ok (.value (.pointer (some ⟨W.heap.size,0,none⟩))) (W.alloc (.cells z.cells e)):=by
 simp [execOp,ho,go_sem,Instr.alloc,zeroValue,typeInfo,hi,hz]
theorem ql3{x:Operand}{i:Nat}{vs:Array Value}{v:Value}(ho:o.op= .extract x i)(hx:ρ x= .tuple vs)(hv:vs[i]? =some v):
  (execOp ρ o).run P W= .ok (.value v) W:=by
 simp [execOp,ho,go_sem,Instr.extract,hx,hv]
theorem qfh(t:TypeId){d:TypeDesc}(hd:P.underlying t=some d):(isAgg t).run P W= .ok (qaD P t) W:=by
 unfold qaD isAgg
 rw [hd]
 cases d<;>simp [go_sem,underlying,hd]
theorem qbw(b off i:Nat):(⟨b,off,none⟩:Addr).add i=⟨b,off+i,none⟩:=by unfold Addr.add;split<;>simp_all
theorem info_of_underlying{t:TypeId}{d:TypeDesc}(hd:P.underlying t=some d): ∃i,P.info? t=some i:=by
 unfold Program.underlying at hd
 split at hd
 ·rename_i u h;exact ⟨_,h⟩
 ·rename_i i h;exact ⟨_,h⟩
 ·simp at hd
theorem run_sizeOf{t:TypeId}{d:TypeDesc}(hd:P.underlying t=some d):(sizeOf t).run P W= .ok (P.cellsOf t) W:=by
 obtain ⟨i,hi⟩:=info_of_underlying hd
 simp [sizeOf,go_sem,typeInfo,hi,Program.cellsOf]
def Cells(W:World)(b off:Nat)(us:List Value):Prop:= ∀(i:Nat) (u:Value),us[i]? =some u->W.cell? ⟨b,off+i,none⟩=some u
theorem qcF(t:TypeId){d:TypeDesc}(hd:P.underlying t=some d)(b off:Nat)(us:List Value)(hu:Cells W b off us)
  (hl:us.length=if qaD P t then P.cellsOf t else 1):
  (loadVar t ⟨b,off,none⟩).run P W= .ok (if qaD P t then .agg us.toArray else us.headD undef) W:=by
 unfold loadVar
 by_cases h:qaD P t=true
 ·rw [if_pos h] at hl ⊢
  have h1:=run_loadCells_list (P:=P) (w:=W) ⟨b,off,none⟩ us (fun j v hj=>by rw [qbw];exact hu j v hj)
  rw [hl] at h1
  unfold loadCells at h1
  simp [go_sem,qfh t hd,h,run_sizeOf hd,h1]
 ·rw [if_neg h] at hl ⊢
  match us,hl with
  | [u],_=>
   have h2:=hu 0 u rfl
   simp at h2
   simp [go_sem,qfh t hd,h,h2]
theorem qev{t:TypeId}{x:Operand}(ho:o.op= .load t x){d:TypeDesc}(hd:P.underlying t=some d)(b off:Nat)(us:List Value)(hx:ρ x= .pointer (some ⟨b,off,none⟩))(hu:Cells W b off us)
  (hl:us.length=if qaD P t then P.cellsOf t else 1):
  (execOp ρ o).run P W= .ok (.value (if qaD P t then .agg us.toArray else us.headD undef)) W:=by
 have h:=qcF (P:=P) (W:=W) t hd b off us hu hl
 have e:execOp ρ o=(do let v<-loadVar t ⟨b,off,none⟩;pure (.value v)):=by
  simp only [execOp,ho,Instr.loadAt,Instr.sureAddr,hx];rfl
 rw [e,Sem.run_bind,h];rfl
theorem qeH(b:Nat)(cs:Array Value)(t:TypeId)(fr:Nat×Nat): ∀(vs:List Value) (off i:Nat) (W:World) (cs:Array Value),
  W.heap[b]? =some (.cells cs t (0,0))->off+i+vs.length<=cs.size->(∀v∈vs,v.oneCell'=true)->
  ∃W',(storeCells ⟨b,off,none⟩ vs i).run P W= .ok () W'/\W.grownBy W' (some b)/\W'.heap.size=W.heap.size/\ ∃cs',W'.heap[b]? =some (.cells cs' t (0,0))/\cs'.toList=cs.toList.take (off+i)++vs++cs.toList.drop (off+i+vs.length):=by
 intro vs
 induction vs with
 |nil=>
  intro off i W cs hb hl h1
  refine ⟨W,by simp [storeCells,go_sem],⟨rfl,rfl,rfl,Nat.le_refl _,fun _ _ _=>rfl⟩,rfl,cs,hb,by simp⟩
 |cons v vs ih=>
  intro off i W cs hb hl h1
  simp only [List.length_cons] at hl
  have hv:=h1 v (by simp)
  have hc:W.cell? ⟨b,off+i,none⟩=some cs[off+i] :=by
   simp [World.cell?,hb,Array.getElem?_eq_getElem (show off+i<cs.size by omega)]
  have hf:W.frozen? ⟨b,off+i,none⟩=false:=by simp [World.frozen?,hb]
  have hb2:(W.setCell ⟨b,off+i,none⟩ v).heap[b]? =some (.cells (cs.setIfInBounds (off+i) v) t (0,0)):=by
   simp [World.setCell,Array.getElem?_modify,hb]
  obtain ⟨W',hr,hg,hs,cs',hb',hcs⟩:=ih off (i+1) (W.setCell ⟨b,off+i,none⟩ v) (cs.setIfInBounds (off+i) v) hb2 (by simp;omega) (fun u hu=>h1 u (by simp [hu]))
  refine ⟨W', ?_, ?_,by rw [hs];simp,cs',hb', ?_⟩
  ·simp only [storeCells]
   rw [qbw]
   simp [go_sem,run_store P W _ v _ hv,hc,hf,hr]
  ·refine ⟨hg.os,hg.tape,hg.output,by have:=hg.size;simpa using this,fun k hk hne=> ?_⟩
   rw [hg.block k (by simpa using hk) hne]
   exact Below.heap_setCell _ _ _ _ (by simpa using hne)
  ·rw [hcs]
   have e1:(cs.setIfInBounds (off+i) v).toList=cs.toList.set (off+i) v:=by simp
   rw [e1]
   have hlen:off+i<cs.toList.length:=by simp;omega
   rw [List.drop_set_of_lt (by omega),show off+(i+1)=(off+i)+1 from by omega,List.take_succ_eq_append_getElem (by simpa using hlen),List.take_set_of_le (by omega)]
   simp
   congr 1
   omega
theorem qh4{t:TypeId}{x y:Operand}(ho:o.op= .store t x y){d:TypeDesc}(hd:P.underlying t=some d)(b off:Nat)(hx:ρ x= .pointer (some ⟨b,off,none⟩)){cs:Array Value}{e:TypeId}
  (hb:W.heap[b]? =some (.cells cs e (0,0))) (hsz:(ρ y).cells.size=P.cellsOf t) (hl:off+(ρ y).cells.size<=cs.size) (h1: ∀v∈(ρ y).cells.toList,v.oneCell'=true):
  ∃W',(execOp ρ o).run P W= .ok .skip W'/\W.grownBy W' (some b)/\W'.heap.size=W.heap.size/\ ∃cs',W'.heap[b]? =some (.cells cs' e (0,0))/\cs'.toList=cs.toList.take off++(ρ y).cells.toList++cs.toList.drop (off+(ρ y).cells.size):=by
 obtain ⟨W',hr,hg,hs,cs',hb',hcs⟩:=qeH (P:=P) b cs e (0,0) (ρ y).cells.toList off 0 W cs hb (by simpa using hl) h1
 refine ⟨W', ?_,hg,hs,cs',hb',by simpa using hcs⟩
 have e:execOp ρ o=(do storeVar t ⟨b,off,none⟩ (ρ y);pure .skip):=by
  simp only [execOp,ho,Instr.storeAt,Instr.sureAddr,hx];rfl
 rw [e,Sem.run_bind]
 unfold storeVar
 simp [run_sizeOf hd,hsz,hr]
theorem qfx{s:TypeId}{f k:Nat}{ft:TypeId}(hf:qbZ P s f=some (k,ft)): ∃fs fl,P.underlying s=some (.struct fs)/\fs[f]? =some fl/\fl.offset=k/\fl.type=ft:=by
 unfold qbZ at hf
 split at hf
 ·rename_i fs hs
  obtain ⟨fl,h1,h2⟩: ∃fl,fs[f]? =some fl/\(fl.offset,fl.type)=(k,ft):=by simpa using hf
  simp at h2
  exact ⟨fs,fl,hs,h1,h2.1,h2.2⟩
 ·simp at hf
theorem qa8{t:TypeId}(hne:P.cellsOf t≠0):(sizeOf t).run P W= .ok (P.cellsOf t) W:=by
 unfold Program.cellsOf at hne ⊢
 cases hi:P.info? t with
 |none=>simp [hi] at hne
 |some i=>simp [sizeOf,typeInfo,hi]
theorem qec{s:TypeId}{x:Operand}{f:Nat}(ho:o.op= .fieldAddr s x f){k:Nat}{ft:TypeId}(hf:qbZ P s f=some (k,ft))(hne:P.cellsOf ft≠0)(b off:Nat)(hx:ρ x= .pointer (some ⟨b,off,none⟩)):
  (execOp ρ o).run P W= .ok (.value (.pointer (some ⟨b,off+k,none⟩))) W:=by
 obtain ⟨fs,fl,hs,h1,rfl,rfl⟩:=qfx hf
 simp [execOp,ho,Instr.fieldAt,underlying,hs,h1,Instr.sureAddr,hx,fieldPlace,qa8 hne,hne,qbw]
theorem qi6{t:TypeId}{d:TypeDesc}(hd:P.underlying t=some d)(cs:List Value)(off:Nat)(hl:off+(if qaD P t then P.cellsOf t else 1)<=cs.length):
  (part t cs.toArray off).run P W= .ok (if qaD P t then .agg ((cs.drop off).take (P.cellsOf t)).toArray else cs.getD off undef) W:=by
 unfold part
 by_cases h:qaD P t=true
 ·rw [if_pos h] at hl ⊢
  simp [qfh t hd,h,run_sizeOf hd,List.extract_toArray,List.extract_eq_take_drop]
 ·rw [if_neg h] at hl ⊢
  simp [qfh t hd,h,List.getElem?_eq_getElem (show off<cs.length by omega),List.getD]
theorem qdK{s:TypeId}{x:Operand}{f:Nat}(ho:o.op= .field s x f){k:Nat}{ft:TypeId}(hf:qbZ P s f=some (k,ft)){d:TypeDesc}(hd:P.underlying ft=some d)(cs:List Value)
  (hx:ρ x= .agg cs.toArray) (hl:k+(if qaD P ft then P.cellsOf ft else 1)<=cs.length):
  (execOp ρ o).run P W= .ok (.value (if qaD P ft then .agg ((cs.drop k).take (P.cellsOf ft)).toArray else cs.getD k undef)) W:=by
 obtain ⟨fs,fl,hs,h1,rfl,rfl⟩:=qfx hf
 simp [execOp,ho,Instr.field,underlying,hs,h1,asAgg,hx,qi6 hd cs fl.offset hl]
theorem qeh{op:BinOp}{t u:TypeId}{x y:Operand}(ho:o.op= .binOp op t x y u){a b v:Value}{side:Prop}(hx:ρ x=a)(hy:ρ y=b)(hv:qmp op a b=some (v,side))(hs:side):
  (execOp ρ o).run P W= .ok (.value v) W:=by
 cases a<;>cases b<;>simp only [qmp,reduceCtorEq] at hv
 ·cases op<;>simp only [Option.some.injEq,Prod.mk.injEq] at hv<;>obtain ⟨rfl,rfl⟩:=hv<;>
   first
   |(obtain ⟨rfl,hw⟩:=hs;simp [execOp,ho,hx,hy,eqGuard,binOp,Op.intArith, <-qeA _ _ hw];done)
   |(obtain ⟨⟨rfl,hne⟩,hw⟩:=hs;simp [execOp,ho,hx,hy,eqGuard,binOp,Op.intDiv,hne, <-qeA _ _ hw];done)
   |(obtain ⟨h0,hw⟩:=hs;simp [execOp,ho,hx,hy,eqGuard,binOp,Op.shift,Int.not_lt.2 h0, <-qeA _ _ hw];done)
   |(obtain rfl:=hs;simp [execOp,ho,hx,hy,eqGuard,binOp,Op.intArith,Op.intBits,Op.intCmp];done)
   |(obtain ⟨rfl,hne⟩:=hs;simp [execOp,ho,hx,hy,eqGuard,binOp,Op.intDiv,hne];done)
   |(simp [execOp,ho,hx,hy,eqGuard,binOp,Op.shift,Int.not_lt.2 hs];done)
 ·cases op<;>simp only [Option.some.injEq,Prod.mk.injEq,reduceCtorEq] at hv<;>obtain ⟨rfl,rfl⟩:=hv
  ·simp [execOp,ho,hx,hy,eqGuard,binOp,Op.stringOp,IntKind.max,IntKind.signed,IntKind.bits]
   omega
  ·simp [execOp,ho,hx,hy,eqGuard,binOp,Op.stringOp,beq_toListBytes]
  ·simp [execOp,ho,hx,hy,eqGuard,binOp,Op.stringOp,beq_toListBytes]
  ·simp [execOp,ho,hx,hy,eqGuard,binOp,Op.stringOp,beq_toListBytes]
  ·simp [execOp,ho,hx,hy,eqGuard,binOp,Op.stringOp,beq_toListBytes]
theorem qp1(d:Nat){t e:TypeId}{A:Addr}{n c:Nat}(ht:P.underlying t=some (.slice e)):(Op.equalIn (d+1) t (.slice (some A) n c) (.slice none 0 0)).run P W= .ok false W:=by
 simp [Op.equalIn,run_underlying ht]
theorem qiM{t e:TypeId}{A:Addr}{n c:Nat}(ht:P.underlying t=some (.slice e)):(Op.equal t (.slice (some A) n c) (.slice none 0 0)).run P W= .ok false W:=qp1 9999 ht
theorem qhu{op:BinOp}{t e u:TypeId}{x y:Operand}{A:Addr}{n c:Nat}(ho:o.op= .binOp op t x y u)(ht:P.underlying t=some (.slice e))(hx:ρ x= .slice (some A) n c)(hy:ρ y= .slice none 0 0):
  (op= .eql->(execOp ρ o).run P W= .ok (.value (.bool false)) W)/\(op= .neq->(execOp ρ o).run P W= .ok (.value (.bool true)) W):=by
 constructor
 ·rintro rfl;simp [execOp,ho,hx,hy,eqGuard,binOp,qiM ht]
 ·rintro rfl;simp [execOp,ho,hx,hy,eqGuard,binOp,qiM ht]
theorem qkG{t u:TypeId}{x y:Operand}(ho:o.op= .binOp .eql t x y u){a b:Bool}(ht:P.underlying t=some .bool)(hx:ρ x= .bool a)(hy:ρ y= .bool b):
  (execOp ρ o).run P W= .ok (.value (.bool (a==b))) W:=by
 simp [execOp,ho,hx,hy,eqGuard,binOp,Op.equal,Op.maxDepth,run_equalIn_bool' W 9999 t a b ht]
theorem qkC{t u:TypeId}{x y:Operand}(ho:o.op= .binOp .neq t x y u){a b:Bool}(ht:P.underlying t=some .bool)(hx:ρ x= .bool a)(hy:ρ y= .bool b):
  (execOp ρ o).run P W= .ok (.value (.bool (!(a==b)))) W:=by
 simp [execOp,ho,hx,hy,eqGuard,binOp,Op.equal,Op.maxDepth,run_equalIn_bool' W 9999 t a b ht]
theorem qtm{op:UnOp}{t:TypeId}{x:Operand}(ho:o.op= .unOp op t x){v:Value}(hv:unV op (ρ x)=some v):(execOp ρ o).run P W= .ok (.value v) W:=by
 generalize hx:ρ x=a at hv
 cases a<;>cases op<;>simp [unV] at hv<;>subst hv<;>simp [execOp,ho,hx,Op.unary,Op.intArith,Op.intBits]
theorem qme{t:TypeId}{x i:Operand}(ho:o.op= .index t x i){s:ByteArray}{k:IntKind}{n:Int}(ht:P.underlying t=some .string)(hx:ρ x= .string s)(hi:ρ i= .int k n)(h0:0<=n)(h1:n<s.size):
  (execOp ρ o).run P W= .ok (.value (.int .u8 (bt s n))) W:=by
 have hlt:n.toNat<s.size:=by omega
 simp [execOp,ho,Instr.index,underlying,ht,hx,hi,asIntOf,h0,h1,bt,hlt]
theorem qeb{t e:TypeId}{x i:Operand}(ho:o.op= .indexAddr t x i)(ht:P.underlying t=some (.slice e)){b off len cap:Nat}{k:IntKind}{n:Int}(hx:ρ x= .slice (some ⟨b,off,none⟩) len cap)(hi:ρ i= .int k n)
  (h0:0<=n) (h1:n<len) (hne:P.cellsOf e≠0):(execOp ρ o).run P W= .ok (.value (.pointer (some ⟨b,off+n.toNat*P.cellsOf e,none⟩))) W:=by
 simp [execOp,ho,Instr.indexAt,underlying,ht,hx,hi,asIntOf,h0,h1,qa8 hne,qbw]
theorem qie{g:FuncId}{cap:Array Operand}(ho:o.op= .makeFunc (.func g) #[] cap):(execOp ρ o).run P W= .ok (.value (.func (.func g) #[] (cap.map ρ))) W:=by
 simp [execOp,ho,Instr.makeFunc]
end
end Go.Nv
end
section
namespace Go.Nv
open Go.RowKit
def qqW(τ:Nat->B):Option (Nat×B)->Nat->B
 |none=>τ
 |some (k,nb)=>at_ τ k nb
def qbh(P:Program)(old bs:Nat->Prop)(W:World)(ι:Nat->Value)(τ:Nat->B)(o:Oper)(ρ:Operand->Value)(val:S)(upd:Option (Nat×B)):Prop:=
 ∃v W' ι',((execOp ρ o).run P W= .ok (.value v) W'\/((execOp ρ o).run P W= .ok .skip W'/\v=undef))/\
  qaw old bs W ι τ W' ι' (qqW τ upd)/\qaF W' ι' (qap (qqW τ upd)) (okT bs (qqW τ upd) ι') val v
section
variable {P:Program} {old bs:Nat->Prop} {W:World} {ι:Nat->Value} {τ:Nat->B} {ρ:Operand->Value} {o:Oper}
theorem qbh.pure(h:TOk W old bs ι τ){v:Value}{s:S}(hr:(execOp ρ o).run P W= .ok (.value v) W)(hs:qaF W ι (qap τ) (okT bs τ ι) s v):
  qbh P old bs W ι τ o ρ s none:=⟨v,W,ι,.inl hr,qaw.refl h,hs⟩
theorem qda{vr:Nat->Option (Option Nat)}{ok:Nat->Prop}{x v:Value}(h:qaF W ι vr ok (.d (.v x)) v):v=x/\qnC x=true:=by
 cases h with|d h=>cases h with|v h=>exact ⟨rfl,h⟩
theorem qBk{vr:Nat->Option (Option Nat)}{ok:Nat->Prop}{cs:List D}{v:Value}(h:qaF W ι vr ok (.d (.a cs)) v): ∃us,v= .agg (List.toArray us)/\qaO W ok cs us/\ ∀(i:Nat) (u:Value),us[i]? =some u->u.oneCell'=true:=by
 cases h with|d h=>cases h with|a hl hh h1=>exact ⟨_,rfl,⟨hl,hh⟩,h1⟩
theorem qxP{vr:Nat->Option (Option Nat)}{ok:Nat->Prop}{off:Nat}{cs:List D}{v:Value}(h:qaF W ι vr ok (.d (.p off cs)) v): ∃b base us,v= .pointer (some ⟨b,base+off,none⟩)/\us≠ [] /\ok b/\Cells W b base us/\qaO W ok cs us/\ ∀(i:Nat) (u:Value),us[i]? =some u->u.oneCell'=true:=by
 cases h with|d h=>cases h with|p hne hl ho hc hh h0=>exact ⟨_,_,_,rfl,hne,ho,hc,⟨hl,hh⟩,h0⟩
theorem qt0{vr:Nat->Option (Option Nat)}{ok:Nat->Prop}{xs:List D}{v:Value}(h:qaF W ι vr ok (.d (.l xs)) v):
  ∃A cap,v= .slice A xs.length cap/\xs.length<=cap/\cap<=maxLen/\(A=none->cap=0)/\(flat xs≠ [] -> ∃b off us,A=some ⟨b,off,none⟩/\us≠ [] /\ok b/\Cells W b off us/\qaO W ok (flat xs) us/\ ∀(i:Nat) (u:Value),us[i]? =some u->u.oneCell'=true):=by
 cases h with
 |d h=>
  cases h with
  |l0 hc hn=>exact ⟨_,_,rfl,Nat.zero_le _,hc,hn,fun h=>absurd rfl h⟩
  |l hne hl ho hc hh h0 h1 h2=>exact ⟨_,_,rfl,h1,h2,by simp,fun _=>⟨_,_,_,rfl,hne,ho,hc,⟨hl,hh⟩,h0⟩⟩
theorem qvV{vr:Nat->Option (Option Nat)}{ok:Nat->Prop}{g:FuncId}{cap:List D}{v:Value}(h:qaF W ι vr ok (.d (.f g cap)) v): ∃us,v= .func (.func g) #[] (List.toArray us)/\qaO W ok cap us:=by
 cases h with|d h=>cases h with|f hl hh=>exact ⟨_,rfl,hl,hh⟩
theorem qc0{k ver off:Nat}{v:Value}(h:qaF W ι (qap τ) (okT bs τ ι) (.ptr k ver off) v)(hk:qap τ k=some (some ver)): ∃b,blk (ι k)=some b/\v= .pointer (some ⟨b,off,none⟩):=by
 cases h with|ptr _ h=>exact h hk
theorem qcv{k ver:Nat}{v:Value}(h:qaF W ι (qap τ) (okT bs τ ι) (.own k ver) v)(hk:qap τ k=some (some ver)):v=ι k:=by
 cases h with|own _ h=>exact h hk
theorem qnx{vr:Nat->Option (Option Nat)}{ok:Nat->Prop}{xs:List S}{v:Value}(h:qaF W ι vr ok (.tup xs) v): ∃us,v= .tuple (List.toArray us)/\qao W ι vr ok xs us:=by
 cases h with|tup hl hh=>exact ⟨_,rfl,hl,hh⟩
theorem qkP{vr:Nat->Option (Option Nat)}{ok:Nat->Prop}{cs:List S}{v:Value}(h:qaF W ι vr ok (.agg cs) v): ∃us,v= .agg (List.toArray us)/\qao W ι vr ok cs us/\ ∀(i:Nat) (u:Value),us[i]? =some u->u.oneCell'=true:=by
 cases h with|agg hl hh h1=>exact ⟨_,rfl,⟨hl,hh⟩,h1⟩
theorem qao.inv{vr:Nat->Option (Option Nat)}{ok:Nat->Prop}{ds:List D}{us:List Value}(h:qao W ι vr ok (ds.map .d) us):qaO W ok ds us:=by
 refine ⟨by simpa using h.1,fun i c u hc hu=> ?_⟩
 have:=h.2 i (.d c) u (by simp [hc]) hu
 cases this with|d h=>exact h
theorem qbQ: ∀{ss:List S} {ds:List D},qdV ss=some ds->ss=ds.map .d
 | [],ds,h=>by simp [qdV] at h;subst h;rfl
 |s::ss,ds,h=>by
  cases s<;>simp [qdV] at h
  obtain ⟨ds',h1,rfl⟩:=h
  simp [qbQ h1]
theorem Den.cellsL{ok:Nat->Prop}{d:D}{v:Value}(h:Den W ok d v):qaO W ok d.cells v.cells.toList/\ ∀u∈v.cells.toList,u.oneCell'=true:=by
 have one: ∀(hd:d.cells= [d]) (hv:v.cells= #[v]),qaO W ok d.cells v.cells.toList/\ ∀u∈v.cells.toList,u.oneCell'=true:=by
  intro hd hv
  rw [hd,hv]
  refine ⟨qaO.cons h (qaO.nil _ _),fun u hu=> ?_⟩
  simp at hu;subst hu;exact h.oneCell hd
 cases h with
 |v hx=>refine one rfl ?_;cases v<;>simp_all [qnC,Value.cells]
 |a hl hh h1=>
  refine ⟨⟨by simpa [D.cells,Value.cells] using hl,by simpa [D.cells,Value.cells] using hh⟩,fun u hu=> ?_⟩
  simp [Value.cells] at hu
  obtain ⟨i,hi⟩:=List.getElem?_of_mem hu
  exact h1 i u hi
 |l0 _ _=>exact one rfl rfl
 |l _ _ _ _ _ _ _ _=>exact one rfl rfl
 |p _ _ _ _ _ _=>exact one rfl rfl
 |f _ _=>exact one rfl rfl
theorem qaF.cellsL{s:S}{v:Value}(h:qaF W ι (qap τ) (okT bs τ ι) s v)(h1: ∀c∈s.cells,qlc (qap τ) c=true)(hT:TOk W old bs ι τ):
  qao W ι (qap τ) (okT bs τ ι) s.cells v.cells.toList/\ ∀u∈v.cells.toList,u.oneCell'=true:=by
 have one: ∀(hs:s.cells= [s]) (hv:v.cells= #[v]) (h1:v.oneCell'=true),qao W ι (qap τ) (okT bs τ ι) s.cells v.cells.toList/\ ∀u∈v.cells.toList,u.oneCell'=true:=by
  intro hs hv h1
  rw [hs,hv]
  exact ⟨qao.cons h (qao.nil _ _ _ _),by simpa using h1⟩
 cases s with
 |d x=>cases h with|d h=>exact ⟨qao.ofDen h.cellsL.1,h.cellsL.2⟩
 |ptr k ver off=>
  have:=h1 (.ptr k ver off) (by simp [S.cells])
  simp [qlc] at this
  obtain ⟨b,_,rfl⟩:=qc0 h this
  exact one rfl rfl rfl
 |own k ver=>
  have:=h1 (.own k ver) (by simp [S.cells])
  simp [qlc] at this
  have e:=qcv h this
  subst e
  have he:=hT.ent k
  unfold qap B.ver at this
  split at this
  ·rename_i hb;rw [hb] at he;obtain ⟨b,us,hi,_⟩:=he;exact one rfl (by rw [hi];rfl) (by rw [hi];rfl)
  ·rename_i hb;rw [hb] at he;obtain ⟨us,ho,_⟩:=he
   rcases ho.2 with ⟨hv,_⟩|⟨g,cap,cur,hv,_⟩<;>exact one rfl (by rw [hv];rfl) (by rw [hv];rfl)
  ·simp at this
  ·simp at this
  ·rename_i hb;rw [hb] at he;obtain ⟨l,hv⟩:=he;exact one rfl (by rw [hv];rfl) (by rw [hv];rfl)
  ·simp at this
 |clo g cap=>cases h with|clo hl hh=>exact one rfl rfl rfl
 |tup xs=>have:=h1 (.tup xs) (by simp [S.cells]);simp [qlc] at this
 |agg xs=>
  obtain ⟨us,rfl,h2,h3⟩:=qkP h
  refine ⟨by simpa [S.cells,Value.cells] using h2,fun u hu=> ?_⟩
  simp [Value.cells] at hu
  obtain ⟨i,hi⟩:=List.getElem?_of_mem hu
  exact h3 i u hi
 |top=>have:=h1 .top (by simp [S.cells]);simp [qlc] at this
theorem qaF.cellsS{s:S}{v:Value}(h:qaF W ι (qap τ) (okT bs τ ι) s v)(h1:okS (qap τ) s=true)(hT:TOk W old bs ι τ):
  qao W ι (qap τ) (okT bs τ ι) s.cells v.cells.toList/\ ∀u∈v.cells.toList,u.oneCell'=true:=by
 cases s with
 |d x=>cases h with|d h=>exact ⟨qao.ofDen h.cellsL.1,h.cellsL.2⟩
 |_=>exact h.cellsL (by simpa [okS] using h1) hT
end
end Go.Nv
end
section
namespace Go.Nv
open Go.RowKit
section
variable {P:Program} {old bs:Nat->Prop} {W:World} {ι:Nat->Value} {τ:Nat->B} {ρ:Operand->Value} {σ:Operand->S} {o:Oper} {k0:Nat} {mu:Bool} {e:Eff}
theorem Cells.part{b off:Nat}{us:List Value}(h:Cells W b off us)(k n:Nat):Cells W b (off+k) ((us.drop k).take n):=by
 intro i u hu
 rw [List.getElem?_take] at hu
 split at hu
 ·rw [List.getElem?_drop] at hu
  have:=h _ _ hu
  rwa [show off+(k+i)=off+k+i from by omega] at this
 ·simp at hu
theorem qet{t:TypeId}{cs:List D}{off:Nat}{d:D}(h:qdf P t cs off=some d):
  (qaD P t=true/\off+P.cellsOf t<=cs.length/\d= .a ((cs.drop off).take (P.cellsOf t)))\/(qaD P t=false/\cs[off]? =some d):=by
 unfold qdf at h
 split at h
 ·rename_i ha
  split at h
  ·rename_i hl;simp at h;exact .inl ⟨ha,hl,h.symm⟩
  ·simp at h
 ·rename_i ha;exact .inr ⟨by simpa using ha,h⟩
theorem qki{t:TypeId}{x:Operand}(ho:o.op= .load t x)(ht:(P.underlying t).isSome=true){b base off:Nat}{cs:List D}{us:List Value}{ok:Nat->Prop}(hx:ρ x= .pointer (some ⟨b,base+off,none⟩))
  (hc:Cells W b base us) (hd:qaO W ok cs us) (h1: ∀(i:Nat) (u:Value),us[i]? =some u->u.oneCell'=true) {d:D} (hp:qdf P t cs off=some d):
  ∃v,(execOp ρ o).run P W= .ok (.value v) W/\Den W ok d v:=by
 obtain ⟨dd,hdd⟩:=Option.isSome_iff_exists.1 ht
 rcases qet hp with ⟨ha,hl,rfl⟩|⟨ha,hg⟩
 ·have hn:((us.drop off).take (P.cellsOf t)).length=P.cellsOf t:=by simp [hd.1];omega
  refine ⟨_,qev ho hdd b (base+off) _ hx (hc.part off (P.cellsOf t)) (by rw [if_pos ha,hn]), ?_⟩
  rw [if_pos ha]
  have:=(hd.drop off).take (P.cellsOf t)
  refine Den.a this.1 this.2 fun i u hu=> ?_
  obtain ⟨j,hj⟩:=List.getElem?_of_mem (List.mem_of_mem_drop (List.mem_of_mem_take (List.mem_of_getElem? hu)))
  exact h1 j u hj
 ·obtain ⟨u,hu,hdu⟩:=hd.at hg
  have hlt:off<us.length:=(List.getElem?_eq_some_iff.1 hu).1
  have e:(us.drop off).take 1= [u] :=by
   rw [List.drop_eq_getElem_cons hlt]
   simp [(List.getElem?_eq_some_iff.1 hu).2]
  refine ⟨_,qev ho hdd b (base+off) _ hx (hc.part off 1) (by simp [ha,e]), ?_⟩
  simp [ha,e,hdu]
theorem qf0{t:TypeId}{cs:List S}{off:Nat}{s:S}(h:qfN P t cs off=some s):
  (qaD P t=true/\off+P.cellsOf t<=cs.length/\s=qnS ((cs.drop off).take (P.cellsOf t)))\/(qaD P t=false/\cs[off]? =some s):=by
 unfold qfN at h
 split at h
 ·rename_i ha
  split at h
  ·rename_i hl;simp at h;exact .inl ⟨ha,hl,h.symm⟩
  ·simp at h
 ·rename_i ha;exact .inr ⟨by simpa using ha,h⟩
theorem qaF.ofAgg{vr:Nat->Option (Option Nat)}{ok:Nat->Prop}{ss:List S}{us:List Value}(h:qao W ι vr ok ss us)(h1: ∀(i:Nat) (u:Value),us[i]? =some u->u.oneCell'=true):qaF W ι vr ok (qnS ss) (.agg us.toArray):=by
 unfold qnS
 cases hd:qdV ss with
 |none=>exact .agg h.1 h.2 h1
 |some ds=>
  rw [qbQ hd] at h
  exact .d (.a h.inv.1 h.inv.2 h1)
theorem qe1{us:List Value}(h1: ∀(i:Nat) (u:Value),us[i]? =some u->u.oneCell'=true)(off n:Nat): ∀(i:Nat) (u:Value),((us.drop off).take n)[i]? =some u->u.oneCell'=true:=by
 intro i u hu
 obtain ⟨j,hj⟩:=List.getElem?_of_mem (List.mem_of_mem_drop (List.mem_of_mem_take (List.mem_of_getElem? hu)))
 exact h1 j u hj
theorem qn7{t:TypeId}{x:Operand}(ho:o.op= .load t x)(ht:(P.underlying t).isSome=true){b off:Nat}{cs:List S}{us:List Value}{vr:Nat->Option (Option Nat)}{ok:Nat->Prop}(hx:ρ x= .pointer (some ⟨b,off,none⟩))
  (hc:Cells W b 0 us) (hd:qao W ι vr ok cs us) (h1: ∀(i:Nat) (u:Value),us[i]? =some u->u.oneCell'=true) {s:S} (hp:qfN P t cs off=some s):
  ∃v,(execOp ρ o).run P W= .ok (.value v) W/\qaF W ι vr ok s v:=by
 obtain ⟨dd,hdd⟩:=Option.isSome_iff_exists.1 ht
 have hx':ρ x= .pointer (some ⟨b,0+off,none⟩):=by simpa using hx
 rcases qf0 hp with ⟨ha,hl,rfl⟩|⟨ha,hg⟩
 ·have hn:((us.drop off).take (P.cellsOf t)).length=P.cellsOf t:=by simp [hd.1];omega
  refine ⟨_,qev ho hdd b (0+off) _ hx' (hc.part off (P.cellsOf t)) (by rw [if_pos ha,hn]), ?_⟩
  rw [if_pos ha]
  exact qaF.ofAgg ((hd.drop off).take _) (qe1 h1 _ _)
 ·obtain ⟨u,hu,hdu⟩:=hd.at hg
  have hlt:off<us.length:=(List.getElem?_eq_some_iff.1 hu).1
  have e:(us.drop off).take 1= [u] :=by
   rw [List.drop_eq_getElem_cons hlt]
   simp [(List.getElem?_eq_some_iff.1 hu).2]
  refine ⟨_,qev ho hdd b (0+off) _ hx' (hc.part off 1) (by simp [ha,e]), ?_⟩
  simp [ha,e,hdu]
theorem qd7{b:Nat}{us:List Value}{t:TypeId}(h:W.heap[b]? =some (.cells us.toArray t (0,0))):Cells W b 0 us:=by
 intro i u hu
 simp [World.cell?,h,hu]
theorem qfI{e:TypeId}{size n:Nat}{v:Value}{us:List Value}(h:W.ownsRow 0 e size v n us){b:Nat}(hb:blk v=some b):Cells W b 0 us:=by
 intro i u hu
 have:=h.cells (g:=b) (by rw [<-qcQ v e h];exact hb) i u hu
 rwa [qbw] at this
theorem qvG(hT:TOk W old bs ι τ){t:TypeId}{x:Operand}(ho:o.op= .load t x)(hx:qaF W ι (qap τ) (okT bs τ ι) (σ x) (ρ x))(h:opA P k0 mu σ τ o.type (.load t x)=some e):qbh P old bs W ι τ o ρ e.val e.upd:=by
 simp only [opA] at h
 split at h
 ·rename_i ht
  split at h
  ·rename_i off cs hs
   obtain ⟨d,hp,rfl⟩: ∃d,qdf P t cs off=some d/\{val:= .d d}=e:=by simpa using h
   rw [hs] at hx
   obtain ⟨b,base,us,hv,_,_,hc,hd,h1⟩:=qxP hx
   obtain ⟨v,hr,hdv⟩:=qki ho ht hv hc hd h1 hp
   exact qbh.pure hT hr (.d hdv)
  ·rename_i k ver off hs
   rw [hs] at hx
   have he:=hT.ent k
   split at h
   ·rename_i bt cs hk
    split at h
    ·rename_i hver
     subst hver
     obtain ⟨s,hp,rfl⟩: ∃s,qfN P t cs off=some s/\{val:=s}=e:=by simpa using h
     rw [hk] at he
     obtain ⟨b,us,hi,_,hh,hsd,h1⟩:=he
     obtain ⟨b',hb',hv⟩:=qc0 hx (by simp [qap,hk,B.ver])
     rw [hi] at hb';simp [blk] at hb';subst hb'
     obtain ⟨v,hr,hdv⟩:=qn7 ho ht hv (qd7 hh) hsd h1 hp
     exact qbh.pure hT hr hdv
    ·simp at h
   ·rename_i v' ee size bytes xs hk
    split at h
    ·rename_i hver
     subst hver
     obtain ⟨d,hp,rfl⟩: ∃d,qdf P t (flat xs) off=some d/\{val:= .d d}=e:=by simpa using h
     rw [hk] at he
     obtain ⟨us,hown,hd,h1,_⟩:=he
     obtain ⟨b,hb,hv⟩:=qc0 hx (by simp [qap,hk,B.ver])
     have hv':ρ x= .pointer (some ⟨b,0+off,none⟩):=by simpa using hv
     obtain ⟨v,hr,hdv⟩:=qki ho ht hv' (qfI hown hb) hd h1 hp
     exact qbh.pure hT hr (.d hdv)
    ·simp at h
   ·simp at h
  ·simp at h
 ·simp at h
end
end Go.Nv
end
section
namespace Go.Nv
open Go.RowKit
section
variable {P:Program} {old bs:Nat->Prop} {W:World} {ι:Nat->Value} {τ:Nat->B} {ρ:Operand->Value} {σ:Operand->S} {o:Oper} {k0:Nat} {mu:Bool} {e:Eff}
theorem qwB(hT:TOk W old bs ι τ){x:Operand}(ho:o.op= .move x)(hx:qaF W ι (qap τ) (okT bs τ ι) (σ x) (ρ x))(h:opA P k0 mu σ τ o.type (.move x)=some e):qbh P old bs W ι τ o ρ e.val e.upd:=by
 simp [opA] at h;subst h
 exact qbh.pure hT (run_move ho) hx
theorem qqI(hT:TOk W old bs ι τ)(hN:qbO old W)(hk0:τ k0= .gone){x:Operand}(hcon: ∀v,ρ (.const v)=v)(ho:o.op= .assign x)(hx:qaF W ι (qap τ) (okT bs τ ι) (σ x) (ρ x))(h:opA P k0 mu σ τ o.type (.assign x)=some e):qbh P old bs W ι τ o ρ e.val e.upd:=by
 simp only [opA] at h
 split at h
 ·split at h
  ·rename_i e' he
   simp at h;subst h
   refine ⟨.slice none 0 0,W,_,.inl (by rw [run_assign ho,hcon]),hT.newNil hN k0 hk0 0 e' _ _, ?_⟩
   refine .own ?_ fun _=> ?_
   ·exact qaP (by show qap (at_ τ k0 _) k0=_;simp [qap,qam,B.ver])
   ·show _=at_ ι k0 _ k0;rw [qam]
  ·simp at h
 ·simp at h;subst h
  exact qbh.pure hT (run_assign ho) hx
theorem qvr(hT:TOk W old bs ι τ){c x y:Operand}(ho:o.op= .pick c x y)(hc:qaF W ι (qap τ) (okT bs τ ι) (σ c) (ρ c))(hx:qaF W ι (qap τ) (okT bs τ ι) (σ x) (ρ x))(hy:qaF W ι (qap τ) (okT bs τ ι) (σ y) (ρ y))
  (h:opA P k0 mu σ τ o.type (.pick c x y)=some e):qbh P old bs W ι τ o ρ e.val e.upd:=by
 simp only [opA] at h
 split at h
 ·rename_i z hz
  simp at h;subst h
  rw [hz] at hc
  have hv:=(qda hc).1
  refine qbh.pure hT (qsf ho hv) ?_
  cases z<;>simpa
 ·simp at h
theorem qob(hT:TOk W old bs ι τ){x:Operand}{i:Nat}(ho:o.op= .extract x i)(hx:qaF W ι (qap τ) (okT bs τ ι) (σ x) (ρ x))(h:opA P k0 mu σ τ o.type (.extract x i)=some e):qbh P old bs W ι τ o ρ e.val e.upd:=by
 simp only [opA] at h
 split at h
 ·rename_i xs hs
  obtain ⟨s,hp,rfl⟩: ∃s,xs[i]? =some s/\{val:=s}=e:=by simpa using h
  rw [hs] at hx
  obtain ⟨us,hv,hd⟩:=qnx hx
  obtain ⟨u,hu,hdu⟩:=hd.at hp
  exact qbh.pure hT (ql3 ho hv (by simpa using hu)) hdu
 ·simp at h
theorem qpf{v:Value}{d:D}(h:toD v=some d)(ok:Nat->Prop):Den W ok d v/\v.oneCell'=true/\d.cells= [d] :=by
 unfold toD at h
 split at h
 ·simp at h;subst h;exact ⟨.l0 (Nat.zero_le _) (fun _=>rfl),rfl,rfl⟩
 ·split at h
  ·rename_i hs;simp at h;subst h
   exact ⟨.v hs,by cases v<;>simp_all [qnC,Value.oneCell'],rfl⟩
  ·simp at h
theorem qrM{us:List Value}: ∀{ds:List D},us.mapM toD=some ds-> ∀ok:Nat->Prop,qaO W ok ds us/\ ∀u∈us,u.oneCell'=true:=by
 induction us with
 |nil=>intro ds h ok;simp at h;subst h;exact ⟨qaO.nil _ _,by simp⟩
 |cons u us ih=>
  intro ds h ok
  rw [List.mapM_cons] at h
  cases hd:toD u with
  |none=>simp [hd] at h
  |some d=>
   cases hr:us.mapM toD with
   |none=>simp [hd,hr] at h
   |some ds'=>
    simp [hd,hr] at h
    subst h
    obtain ⟨h1,h2⟩:=ih hr ok
    obtain ⟨h3,h4,_⟩:=qpf (W:=W) hd ok
    exact ⟨qaO.cons h3 h1,by simpa using ⟨h4,h2⟩⟩
theorem qsS{v:Value}(h:qnC v=true):v.oneCell'=true:=by
 cases v<;>simp_all [qnC,Value.oneCell']
theorem qhI{us:List Value}: ∀{ds:List D},us.mapM qv6=some ds-> ∀ok:Nat->Prop,qaO W ok ds us/\ ∀u∈us,u.oneCell'=true:=by
 induction us with
 |nil=>intro ds h ok;simp at h;subst h;exact ⟨qaO.nil _ _,by simp⟩
 |cons u us ih=>
  intro ds h ok
  rw [List.mapM_cons] at h
  by_cases hs:qnC u=true
  ·have hd:qv6 u=some (.v u):=by unfold qv6;rw [if_pos hs]
   cases hr:us.mapM qv6 with
   |none=>simp [hd,hr] at h
   |some ds'=>
    simp [hd,hr] at h
    subst h
    obtain ⟨h1,h2⟩:=ih hr ok
    exact ⟨qaO.cons (.v hs) h1,by simpa using ⟨qsS hs,h2⟩⟩
  ·have hd:qv6 u=none:=by unfold qv6;rw [if_neg hs]
   simp [hd] at h
theorem qr1(hT:TOk W old bs ι τ)(hN:qbO old W)(hk0:τ k0= .gone){t:TypeId}(ho:o.op= .alloc t)(h:opA P k0 mu σ τ o.type (.alloc t)=some e):qbh P old bs W ι τ o ρ e.val e.upd:=by
 simp only [opA] at h
 split at h
 ·rename_i zs hz
  simp at h;subst h
  unfold zeroCells at hz
  split at hz
  ·rename_i z hzz
   obtain ⟨i,hi,hz1⟩: ∃i,P.info? t=some i/\i.zero=some z:=by simpa [Option.bind_eq_some_iff] using hzz
   obtain ⟨h1,h2⟩:=qhI (W:=W) hz (okT bs τ ι)
   have e2:z.cells=(z.cells.toList).toArray:=by simp
   refine ⟨_,_,at_ ι k0 (.pointer (some ⟨W.heap.size,0,none⟩)),.inl (qpd ho hi hz1), ?_, ?_⟩
   ·have:=hT.newBox hN k0 hk0 t (zs.map .d) z.cells.toList (qao.ofDen h1) (fun i u hu=>h2 u (List.mem_of_getElem? hu))
    rw [<-e2] at this;exact this
   ·refine .ptr ?_ fun _=>⟨W.heap.size, ?_,rfl⟩
    ·exact qaP (by show qap (at_ τ k0 _) k0=_;simp [qap,qam,B.ver])
    ·rw [qam];rfl
  ·simp at hz
 ·simp at h
theorem qzY(hT:TOk W old bs ι τ)(hN:qbO old W)(hk0:τ k0= .gone){t:TypeId}{x:Operand}(ho:o.op= .box t x)(hx:qaF W ι (qap τ) (okT bs τ ι) (σ x) (ρ x))(h:opA P k0 mu σ τ o.type (.box t x)=some e)(hs:e.side):
  qbh P old bs W ι τ o ρ e.val e.upd:=by
 have hr:=qu9 (P:=P) (W:=W) (ρ:=ρ) ho
 simp only [opA] at h
 split at h
 ·rename_i y hy
  simp at h;subst h
  simp only at hs
  rw [hy] at hx
  cases hx with
  |d hx=>
   obtain ⟨h1,h2⟩:=hx.cellsL
   have hg:W.grownBy (W.alloc (.cells (ρ x).cells t)) none:=World.grownBy_alloc W _ none
   have hst:=hT.quiet hN hg
   refine ⟨_,_,ι,.inl hr,hst, ?_⟩
   have hne:(ρ x).cells.toList≠ [] :=fun hn=>by rw [show y.cells= [] from List.eq_nil_of_length_eq_zero (by rw [<-h1.1,hn];rfl)] at hs;simp at hs
   have hok:okT bs τ ι W.heap.size:=⟨hT.bsn _ (fun ho=>absurd (hN _ ho) (by omega)),fun k hl hb=>absurd (hT.blk_new hl hb).2 (by omega)⟩
   have hc:Cells (W.alloc (.cells (ρ x).cells t)) W.heap.size 0 (ρ x).cells.toList:=by
    refine qd7 (t:=t) ?_
    have:=heap_alloc_new W (.cells (ρ x).cells t)
    simpa using this
   have h3:=hst.denL h1
   exact .d (Den.p (base:=0) (off:=0) hne h3.1 hok hc h3.2 (fun i u hu=>h2 u (List.mem_of_getElem? hu)))
 ·simp at h;subst h
  simp only at hs
  obtain ⟨h1,h2⟩:=hx.cellsS hs.2 hT
  refine ⟨_,_,at_ ι k0 (.pointer (some ⟨W.heap.size,0,none⟩)),.inl hr, ?_, ?_⟩
  ·have:=hT.newBox hN k0 hk0 t (σ x).cells (ρ x).cells.toList h1 (fun i u hu=>h2 u (List.mem_of_getElem? hu))
   have e2:(ρ x).cells=((ρ x).cells.toList).toArray:=by simp
   rw [<-e2] at this;exact this
  ·refine .ptr ?_ fun _=>⟨W.heap.size, ?_,rfl⟩
   ·exact qaP (by show qap (at_ τ k0 _) k0=_;simp [qap,qam,B.ver])
   ·rw [qam];rfl
theorem qkg(hT:TOk W old bs ι τ){s:TypeId}{x:Operand}{f:Nat}(ho:o.op= .fieldAddr s x f)(hx:qaF W ι (qap τ) (okT bs τ ι) (σ x) (ρ x))(h:opA P k0 mu σ τ o.type (.fieldAddr s x f)=some e)(hs:e.side):
  qbh P old bs W ι τ o ρ e.val e.upd:=by
 simp only [opA] at h
 split at h
 ·rename_i k ft hf
  split at h
  ·rename_i off cs hc
   simp at h;subst h
   rw [hc] at hx
   obtain ⟨b,base,us,hv,hne,hok,hcl,hd,h1⟩:=qxP hx
   refine qbh.pure hT (qec ho hf hs b _ hv) ?_
   rw [show base+off+k=base+(off+k) from by omega]
   exact .d (.p hne hd.1 hok hcl hd.2 h1)
  ·rename_i k' ver off hc
   simp at h;subst h
   rw [hc] at hx
   obtain ⟨hs,hl⟩:=hs
   obtain ⟨b,hb,hv⟩:=qc0 hx hl
   refine qbh.pure hT (qec ho hf hs b _ hv) (.ptr (qaP hl) fun _=>⟨b,hb,rfl⟩)
  ·simp at h
 ·simp at h
theorem qsk(hT:TOk W old bs ι τ){s:TypeId}{x:Operand}{f:Nat}(ho:o.op= .field s x f)(hx:qaF W ι (qap τ) (okT bs τ ι) (σ x) (ρ x))(h:opA P k0 mu σ τ o.type (.field s x f)=some e):qbh P old bs W ι τ o ρ e.val e.upd:=by
 simp only [opA] at h
 split at h
 ·rename_i k ft hf
  split at h
  ·rename_i ht
   obtain ⟨dd,hdd⟩:=Option.isSome_iff_exists.1 ht
   split at h
   ·rename_i cs hc
    obtain ⟨d,hp,rfl⟩: ∃d,qdf P ft cs k=some d/\{val:= .d d}=e:=by simpa using h
    rw [hc] at hx
    obtain ⟨us,hv,hd,h1⟩:=qBk hx
    rcases qet hp with ⟨ha,hl,rfl⟩|⟨ha,hg⟩
    ·refine qbh.pure hT (qdK ho hf hdd us hv (by rw [if_pos ha,hd.1];exact hl)) ?_
     rw [if_pos ha]
     have:=(hd.drop k).take (P.cellsOf ft)
     exact .d (Den.a this.1 this.2 (qe1 h1 _ _))
    ·obtain ⟨u,hu,hdu⟩:=hd.at hg
     have hlt:k<us.length:=(List.getElem?_eq_some_iff.1 hu).1
     refine qbh.pure hT (qdK ho hf hdd us hv (by simp [ha];omega)) ?_
     simp only [ha]
     simpa [List.getD,hu] using qaF.d hdu
   ·rename_i cs hc
    obtain ⟨s',hp,rfl⟩: ∃d,qfN P ft cs k=some d/\{val:=d}=e:=by simpa using h
    rw [hc] at hx
    obtain ⟨us,hv,hd,h1⟩:=qkP hx
    rcases qf0 hp with ⟨ha,hl,rfl⟩|⟨ha,hg⟩
    ·refine qbh.pure hT (qdK ho hf hdd us hv (by rw [if_pos ha,hd.1];exact hl)) ?_
     rw [if_pos ha]
     exact qaF.ofAgg ((hd.drop k).take _) (qe1 h1 _ _)
    ·obtain ⟨u,hu,hdu⟩:=hd.at hg
     have hlt:k<us.length:=(List.getElem?_eq_some_iff.1 hu).1
     refine qbh.pure hT (qdK ho hf hdd us hv (by simp [ha];omega)) ?_
     simp only [ha]
     simpa [List.getD,hu] using hdu
   ·simp at h
  ·simp at h
 ·simp at h
theorem qpb{op:BinOp}{a b v:Value}{side:Prop}(h:qmp op a b=some (v,side)):qnC v=true:=by
 cases a<;>cases b<;>simp only [qmp,reduceCtorEq] at h
 ·cases op<;>simp only [Option.some.injEq,Prod.mk.injEq] at h<;>obtain ⟨rfl,_⟩:=h<;>rfl
 ·cases op<;>simp only [Option.some.injEq,Prod.mk.injEq,reduceCtorEq] at h<;>obtain ⟨rfl,_⟩:=h<;>rfl
theorem qu8{ok:Nat->Prop}{d:D}{u:Value}(h:Den W ok d u)(hk:kdD d≠0):u=qjA d:=by
 cases h with
 |v hx=>rfl
 |_=>simp [kdD] at hk
theorem qgI{ok:Nat->Prop}{ds:List D}: ∀{us:List Value},qaO W ok ds us->0∉ds.map kdD->us=ds.map qjA:=by
 induction ds with
 |nil=>intro us h _;exact h.nil_inv
 |cons d ds ih=>
  intro us h hk
  obtain ⟨u,us',rfl,h1,h2⟩:=h.cons_inv
  simp at hk
  rw [List.map_cons,qu8 h1 (fun e=>hk.1 e.symm),ih h2 (by simpa using hk.2)]
theorem qx2(hT:TOk W old bs ι τ){op:BinOp}{xt yt:TypeId}{x y:Operand}(ho:o.op= .binOp op xt x y yt)(hx:qaF W ι (qap τ) (okT bs τ ι) (σ x) (ρ x))(hy:qaF W ι (qap τ) (okT bs τ ι) (σ y) (ρ y))
  (h:opA P k0 mu σ τ o.type (.binOp op xt x y yt)=some e) (hs:e.side):qbh P old bs W ι τ o ρ e.val e.upd:=by
 simp only [opA] at h
 split at h
 ·rename_i a b ha hb
  rw [ha] at hx;rw [hb] at hy
  have hx':=(qda hx).1
  have hy':=(qda hy).1
  split at h
  ·split at h
   ·simp at h;subst h
    exact qbh.pure hT (qkG ho hs hx' hy') (.d (.v rfl))
   ·simp at h;subst h
    exact qbh.pure hT (qkC ho hs hx' hy') (.d (.v rfl))
   ·simp at h
  ·obtain ⟨v,side,hv,rfl⟩: ∃v side,qmp op a b=some (v,side)/\{val:= .d (.v v),side:=side}=e:=by
    cases hb:qmp op a b with
    |none=>simp [hb] at h
    |some r=>simp [hb] at h;exact ⟨r.1,r.2,rfl,h⟩
   exact qbh.pure hT (qeh ho hx' hy' hv hs) (.d (.v (qpb hv)))
 ·rename_i as bs ha hb
  rw [ha] at hx;rw [hb] at hy
  obtain ⟨us,hv,hd,h1⟩:=qBk hx
  obtain ⟨vs,hv',hd',h1'⟩:=qBk hy
  split at h
  ·simp at h;subst h
   obtain ⟨⟨hz,heq⟩,hk⟩:=hs
   rw [qgI hd hz] at hv
   rw [qgI hd' (by rw [<-hk];exact hz)] at hv'
   obtain ⟨g1,_,g3,_⟩:=heq as bs W x y rfl hk.symm
   exact qbh.pure hT (by simp [execOp,ho,hv,hv',g1,g3]) (.d (.v rfl))
  ·simp at h;subst h
   obtain ⟨⟨hz,heq⟩,hk⟩:=hs
   rw [qgI hd hz] at hv
   rw [qgI hd' (by rw [<-hk];exact hz)] at hv'
   obtain ⟨_,g2,_,g4⟩:=heq as bs W x y rfl hk.symm
   exact qbh.pure hT (by simp [execOp,ho,hv,hv',g2,g4]) (.d (.v rfl))
  ·simp at h
 ·rename_i ds ha hb
  rw [ha] at hx;rw [hb] at hy
  have hy':=(qda hy).1
  have key0: ∀(v:Value),qaF W ι (qap τ) (okT bs τ ι) (.d (.l ds)) v->ds≠ [] -> ∃A n c,v= .slice (some A) n c:=fun v hv hne=>by
   cases hv with
   |d hd=>cases hd with
    |l0=>exact absurd rfl hne
    |l=>exact ⟨_,_,_,rfl⟩
  have key:=key0 _ hx
  split at h
  ·simp at h;subst h
   obtain ⟨hne,he⟩:=hs
   obtain ⟨A,n,c,hv⟩:=key hne
   obtain ⟨e,he⟩:=he
   exact qbh.pure hT ((qhu ho he hv hy').1 rfl) (.d (.v rfl))
  ·simp at h;subst h
   obtain ⟨hne,he⟩:=hs
   obtain ⟨A,n,c,hv⟩:=key hne
   obtain ⟨e,he⟩:=he
   exact qbh.pure hT ((qhu ho he hv hy').2 rfl) (.d (.v rfl))
  ·simp at h
 ·simp at h
theorem qCv(hT:TOk W old bs ι τ){op:UnOp}{xt:TypeId}{x:Operand}(ho:o.op= .unOp op xt x)(hx:qaF W ι (qap τ) (okT bs τ ι) (σ x) (ρ x))
  (h:opA P k0 mu σ τ o.type (.unOp op xt x)=some e):qbh P old bs W ι τ o ρ e.val e.upd:=by
 simp only [opA] at h
 split at h
 ·rename_i a ha
  obtain ⟨v,hv,rfl⟩: ∃v,unV op a=some v/\{val:= .d (.v v)}=e:=by simpa using h
  rw [ha] at hx
  have hx':=(qda hx).1
  refine qbh.pure hT (qtm ho (by rw [hx'];exact hv)) (.d (.v ?_))
  cases a<;>cases op<;>simp [unV] at hv<;>subst hv<;>rfl
 ·simp at h
theorem qti(hT:TOk W old bs ι τ){xt:TypeId}{x i:Operand}(ho:o.op= .index xt x i)(hx:qaF W ι (qap τ) (okT bs τ ι) (σ x) (ρ x))(hi:qaF W ι (qap τ) (okT bs τ ι) (σ i) (ρ i))
  (h:opA P k0 mu σ τ o.type (.index xt x i)=some e) (hs:e.side):qbh P old bs W ι τ o ρ e.val e.upd:=by
 simp only [opA] at h
 split at h
 ·rename_i s k n ha hb
  simp at h;subst h
  rw [ha] at hx;rw [hb] at hi
  obtain ⟨h0,h1,h2⟩:=hs
  exact qbh.pure hT (qme ho h2 (qda hx).1 (qda hi).1 h0 h1) (.d (.v rfl))
 ·simp at h
theorem qlp(hT:TOk W old bs ι τ){fn:Fn}{first cap:Array Operand}(ho:o.op= .makeFunc fn first cap)(hx: ∀x,qaF W ι (qap τ) (okT bs τ ι) (σ x) (ρ x))
  (h:opA P k0 mu σ τ o.type (.makeFunc fn first cap)=some e):qbh P old bs W ι τ o ρ e.val e.upd:=by
 cases fn with
 |func g=>
  simp only [opA] at h
  split at h
  ·rename_i hf
   subst hf
   simp at h;subst h
   have hl:qao W ι (qap τ) (okT bs τ ι) (cap.toList.map σ) (cap.toList.map ρ):=by
    refine ⟨by simp,fun i c u hc hu=> ?_⟩
    rw [List.getElem?_map] at hc hu
    cases hq:cap.toList[i]? with
    |none=>simp [hq] at hc
    |some q=>simp [hq] at hc hu;subst hc;subst hu;exact hx q
   have hr:=qie (P:=P) (W:=W) (ρ:=ρ) ho
   have e1:cap.map ρ=(cap.toList.map ρ).toArray:=by cases cap;simp
   rw [e1] at hr
   refine qbh.pure hT hr ?_
   split
   ·rename_i ds hd
    rw [qbQ hd] at hl
    exact .d (.f hl.inv.1 hl.inv.2)
   ·exact .clo hl.1 hl.2
  ·simp at h
 |method _=>cases h
 |methodOf _ _=>cases h
 |via _ _ _ _=>cases h
 |yield _=>cases h
end
end Go.Nv
end
