import Derived.Test.YtdjbkccoofcnjaaGreatNvD4
set_option linter.all false
set_option maxRecDepth 100000
section
namespace Go.Nv
open Go.Proofs Nw
theorem rings_c(o:List P2)(hs:List (List P2)):Fun Tryz.prog 215 [.a [.l (pL o),.l (hQ hs)]] [.f 285 [.p 0 [.l (pL o),.l (hQ hs)]]] :=by
 refine fun_of_go (fun t=>false) mixed tOk Tryz.func215 rfl rfl ?_
 conv=>whnf
 refine ⟨?_,trivial⟩
 conv=>whnf
 rfl
theorem inV_rng(l:List P2)(p:P2):inV l p=0∨inV l p=1∨inV l p= -1:=by
 unfold inV
 split
 ·exact .inl rfl
 ·split
  ·exact .inl rfl
  ·split
   ·exact .inr (.inl rfl)
   ·exact .inr (.inr rfl)
theorem spempty_c{r:P2}(h:QP r):Fun Tryz.prog 125 [pD r] [.v (.bool (decide (0≤cmpI r.1 r.2)))] :=by
 refine fun_of_go (fun t=>false) mixed tOk Tryz.func125 rfl rfl ?_
 conv=>whnf
 refine call_data rfl rfl (cmp_q h.1 h.2) ?_
 conv=>whnf
 refine ⟨?_,trivial⟩
 conv=>whnf
 rw [bz_eq]
theorem spcanon_c{r:P2}{n:Nat}(h:BP n r)(hn:n<1000000):Fun Tryz.prog 195 [pD r] [pD r] :=by
 have h0:Bd 0 (0:Rat):=bd_int 0 (by simp)
 have e1:=add_q (.mk h.1 (by omega)) (.mk h0 (by omega))
 have e2:=add_q (.mk h.2 (by omega)) (.mk h0 (by omega))
 rw [Q.add0] at e1 e2
 have hz:=of_r 0 (by omega)
 rw [Rat.intCast_zero] at hz
 refine fun_of_go (fun t=>t==2||t==3) mixed tOk Tryz.func195 rfl rfl ?_
 conv=>whnf
 refine call_data rfl rfl hz ?_
 conv=>whnf
 refine callv_data e1 ?_
 conv=>whnf
 refine callv_data e2 ?_
 conv=>whnf
 refine safe_intro (by kernel_rfl) ?_
 conv=>whnf
 refine ⟨?_,trivial⟩
 conv=>whnf
 exact ⟨rfl,rfl,rfl,rfl,rfl,rfl,trivial⟩
def SpOk(l:List P2):Prop:= ∀i (h:i<l.length),l[i].1<l[i].2∧ ∀(h':i+1<l.length),l[i].2<l[i+1].1
noncomputable def e1St(o:List P2)(hs:List (List P2))(i:Nat):St:=
 ⟨fr 25 [(0,.own 3 0),(1,.d (.p 0 [.l (pL o),.l (hQ hs)])),(11,.d (.l (hQ hs))),(12,.d (i64 (hQ hs).length)),(13,.d (i64 i))],
  [.dead,.box 124 [.own 2 0],.row 0 46 12 160 (eL (cyc o++(hs.take i).flatMap cyc)),
  .loop .ready none #[8,9] (rfO Tryz.f187.body).1 (rfO Tryz.f187.body).2 (fr 15 [(3,.ptr 1 0 0)])]⟩
theorem e1_len{o:List P2}{hs:List (List P2)}(hlo:o.length≤100)(hh: ∀h∈hs,h.length≤100)(hlh:hs.length≤8):(cyc o++hs.flatMap cyc).length≤900:=by
 have: ∀l:List (List P2),(∀h∈l,h.length≤100)→(l.flatMap cyc).length≤100*l.length:=by
  intro l
  induction l with
  |nil=>intro _;simp
  |cons a l ih=>
   intro h
   have:=ih (fun x hx=>h x (List.mem_cons_of_mem _ hx))
   have:=h a List.mem_cons_self
   simp only [List.flatMap_cons,List.length_append,cyc_len,List.length_cons]
   omega
 have:=this hs hh
 rw [List.length_append,cyc_len]
 omega
theorem edges1_c{o:List P2}{hs:List (List P2)}{n:Nat}(ho: ∀p∈o,BP n p)(hlo:o.length≤100)(hh: ∀h∈hs,(∀p∈h,BP n p)∧h.length≤100)(hn:n<10000)(hlh:hs.length≤8):
  Fun Tryz.prog 187 [.a [.l (pL o),.l (hQ hs)]] [.l (eL (cyc o++hs.flatMap cyc))] :=by
 have hll:(hQ hs).length=hs.length:=by simp
 refine fun_of_go (fun t=>t==3||t==5) mixed tOk Tryz.func187 rfl rfl ?_
 conv=>whnf
 refine call_data rfl rfl (rings_c o hs) ?_
 conv=>whnf
 refine okc_own 1 0 46 12 160 ?_
 refine range_intro (g:=285) (cap:= [.d (.p 0 [.l (pL o),.l (hQ hs)])]) (fun t=>t==3||t==5) mixed tOk rfl rfl rfl rfl rfl ?_
 conv=>whnf
 refine call_yield (fun t=>t==3||t==5) mixed tOk rfl rfl rfl ?_
 conv=>whnf
 refine okc_go (fun t=>t==3||t==5) mixed tOk ?_
 conv=>whnf
 refine callv_data (edges_c o (by omega)) ?_
 conv=>whnf
 refine sd_app (by intro x hx;simp at hx) (eL_uni _) (by simp only [maxLen,List.length_nil,List.length_map,cyc_len];omega) ?_
 conv=>whnf
 refine safe_intro (by kernel_rfl) ?_
 conv=>whnf
 refine loop_introD (fun t=>t==3||t==5) (fun i:Nat=>e1St o hs i) (fun i=>i≤hs.length) (fun i=>hs.length-i) 0 mixed tOk (by omega) ?_ ?_
 ·unfold e1St
  rw [show (cyc o++(hs.take 0).flatMap cyc)=cyc o by simp]
  refine weak_dead 0 rfl ?_
  refine weak_l ?_ ?_<;>repeat' (first|exact trivial|exact rfl|apply And.intro)
 ·intro i hi
  conv=>whnf
  refine cond_d (fun hlt=> ?_) (fun hge=> ?_)
  ·have hlt':i<hs.length:=by omega
   have hm:=hh _ (List.getElem_mem hlt')
   have hst:eL (cyc o++(hs.take (i+1)).flatMap cyc)=eL (cyc o++(hs.take i).flatMap cyc)++eL (cyc hs[i]):=by
    rw [List.take_succ_eq_append_getElem hlt',List.flatMap_append, ←List.append_assoc]
    unfold eL
    rw [List.map_append]
    simp
   have hlk:(eL (cyc o++(hs.take i).flatMap cyc)).length≤900:=by
    unfold eL
    rw [List.length_map]
    exact e1_len hlo (fun h hx=>(hh h (List.mem_of_mem_take hx)).2) (by simp;omega)
   have hl2:(eL (cyc hs[i])).length≤100:=by
    unfold eL
    rw [List.length_map,cyc_len]
    omega
   conv=>whnf
   refine idx_intro (.l (pL hs[i])) (hQ_get hlt') (by omega) (hQ_uni _) ?_
   conv=>whnf
   refine sd_d (by omega) ?_
   conv=>whnf
   refine call_yield (fun t=>t==3||t==5) mixed tOk rfl rfl rfl ?_
   conv=>whnf
   refine okc_go (fun t=>t==3||t==5) mixed tOk ?_
   conv=>whnf
   refine callv_data (edges_c hs[i] (by omega)) ?_
   conv=>whnf
   refine sd_app (eL_uni _) (eL_uni _) (by simp only [maxLen];omega) ?_
   conv=>whnf
   refine safe_intro (by kernel_rfl) ?_
   conv=>whnf
   refine sd_d (by omega) ?_
   conv=>whnf
   refine ⟨i+1,by omega,by omega, ?_⟩
   unfold e1St
   rw [hst,Int.natCast_succ]
   refine weak_l ?_ ?_<;>repeat' (first|exact trivial|exact rfl|apply And.intro)
  ·have:i=hs.length:=by omega
   subst this
   rw [show hs.take hs.length=hs from List.take_length]
   conv=>whnf
   refine ⟨?_,trivial⟩
   conv=>whnf
theorem rst_q{i off:Nat}{xs:List Rat}{K:List D→Prop}(v:Rat)(hi:i<xs.length)(ho:off=i*3)(k:K (qL (xs.set i v))):RstG 3 3 (qL xs) off (ratD v) K:=by
 subst ho
 refine rst_intro _ ?_ rfl (qL_uni _) (by omega) k
 unfold setElem
 have h1:i*3/3=i:=by omega
 have h2:i*3%3=0:=by omega
 have hg:(qL xs)[i]? =some (ratD xs[i]):=by simp [hi]
 simp only [h1,h2,hg]
 rw [show (qL (xs.set i v))=(qL xs).set i (ratD v) from List.map_set ..]
 rfl
def ssSt(b1 b2 b3:B)(n:Nat)(ys:List Rat)(i:Nat):St:=⟨fr 53 [(0,.own 1 0),(1,.d (i64 0)),(2,.d (i64 n)),(3,.d (.f 34 [])),(8,.d (i64 i))], [.dead,.row 0 27 3 40 (qL ys),b1,b2,b3]⟩
def ssSt2(b1 b2 b3:B)(n:Nat)(ys:List Rat)(i j:Nat):St:=⟨fr 53 [(0,.own 1 0),(1,.d (i64 0)),(2,.d (i64 n)),(3,.d (.f 34 [])),(8,.d (i64 i)),(9,.d (i64 j))], [.dead,.row 0 27 3 40 (qL ys),b1,b2,b3]⟩
def SoN(l:List Rat)(n:Nat):Prop:= ∀a b (ha:a<l.length) (hb:b<l.length),a<b→b<n→l[a] ≤l[b]
structure InI (l:List Rat) (i j:Nat):Prop where
 o: ∀a b (ha:a<l.length) (hb:b<l.length),a<b→b≤i→a≠j→b≠j→l[a] ≤l[b]
 n: ∀b (hj:j<l.length) (hb:b<l.length),j<b→b≤i→l[j] ≤l[b]
def swP(l:List Rat)(j:Nat)(h:j<l.length)(h0:j-1<l.length):List Rat:=(l.set j l[j-1]).set (j-1) l[j]
theorem swP_len(l:List Rat)(j:Nat)(h:j<l.length)(h0:j-1<l.length):(swP l j h h0).length=l.length:=by simp [swP]
theorem swP_get(l:List Rat)(j:Nat)(h:j<l.length)(h0:j-1<l.length)(hj:0<j)(k:Nat)(hk:k<l.length):(swP l j h h0)[k]'(by rw [swP_len];exact hk)=if k=j-1 then l[j] else if k=j then l[j-1] else l[k] :=by
 unfold swP
 rw [List.getElem_set]
 by_cases c:j-1=k
 ·rw [if_pos c,if_pos c.symm]
 ·rw [if_neg c,if_neg (fun h=>c h.symm),List.getElem_set]
  by_cases d:j=k
  ·rw [if_pos d,if_pos d.symm]
  ·rw [if_neg d,if_neg (fun h=>d h.symm)]
theorem InI.step{l:List Rat}{i j:Nat}(h:InI l i j)(hj:0<j)(hji:j≤i)(h1:j<l.length)(h0:j-1<l.length)(hlt:l[j] <l[j-1]):InI (swP l j h1 h0) i (j-1):=by
 constructor
 ·intro a b ha hb hab hbi ha1 hb1
  rw [swP_len] at ha hb
  rw [swP_get l j h1 h0 hj a ha,swP_get l j h1 h0 hj b hb,if_neg ha1,if_neg hb1]
  by_cases ca:a=j
  ·rw [if_pos ca,if_neg (by omega)]
   exact h.o (j-1) b h0 hb (by omega) hbi (by omega) (by omega)
  ·rw [if_neg ca]
   by_cases cb:b=j
   ·rw [if_pos cb]
    exact h.o a (j-1) ha h0 (by omega) (by omega) ca (by omega)
   ·rw [if_neg cb]
    exact h.o a b ha hb hab hbi ca cb
 ·intro b hj' hb hlt' hbi
  rw [swP_len] at hb hj'
  rw [swP_get l j h1 h0 hj _ hj',swP_get l j h1 h0 hj b hb,if_pos rfl,if_neg (by omega)]
  by_cases cb:b=j
  ·rw [if_pos cb]
   exact Rat.le_of_lt hlt
  ·rw [if_neg cb]
   exact h.n b h1 hb (by omega) hbi
theorem InI.done{l:List Rat}{i j:Nat}(h:InI l i j)(hji:j≤i)(h1:j<l.length)(hd:j=0∨ ∃h0:j-1<l.length,l[j-1] ≤l[j]):SoN l (i+1):=by
 intro a b ha hb hab hbi
 by_cases ca:a=j
 ·subst ca
  exact h.n b ha hb hab (by omega)
 ·by_cases cb:b=j
  ·subst cb
   rcases hd with hd|⟨h0,hd⟩
   ·omega
   ·by_cases cc:a=b-1
    ·subst cc
     exact hd
    ·exact Rat.le_trans (h.o a (b-1) ha h0 (by omega) (by omega) ca (by omega)) hd
  ·exact h.o a b ha hb hab (by omega) ca cb
theorem ins_ok(b1 b2 b3:B){xs:List Rat}(hx: ∀x∈xs,Q x)(hlen:xs.length≤12){c:Code}(hc:Tryz.f264.body=some c)(K:Ex→St→Prop)
  (hK: ∀env ys,ys.Perm xs→SoN ys ys.length→K .normal ⟨env, [.dead,.row 0 27 3 40 (qL ys),b1,b2,b3]⟩):
  Ok Tryz.prog c ⟨fr 53 [(0,.own 1 0),(1,.d (i64 0)),(2,.d (i64 xs.length)),(3,.d (.f 34 []))], [.dead,.row 0 27 3 40 (qL xs),b1,b2,b3]⟩ K:=by
 cases hc
 refine ok_go mixed tOk (mu:=fun t=>false) _ _ _ ?_
 refine sd_d (by decide) ?_
 conv=>whnf
 refine loop_intro (fun t=>false) (fun p:List Rat×Nat=>ssSt b1 b2 b3 xs.length p.1 p.2) (fun p=>p.1.Perm xs∧1≤p.2∧(p.2≤xs.length∨p.2=1)∧SoN p.1 p.2) (fun p=>xs.length+1-p.2) (xs,1) mixed tOk ⟨List.Perm.refl _,by simp,.inr rfl,fun a b ha hb hab h1=>by simp only at h1;omega⟩ ?_ ?_
 ·refine weak_x ⟨eqBP_refl _,⟨rfl,rfl,rfl,rfl,rfl⟩,eqBP_refl _,eqBP_refl _,eqBP_refl _,trivial⟩ ?_
  exact ⟨trivial,rfl,rfl,rfl,rfl,trivial⟩
 ·rintro ⟨ys,i⟩ ⟨hp,hi1,hi2,hso⟩
  simp only at hp hi1 hi2 hso
  dsimp only
  have hyl:=hp.length_eq
  conv=>whnf
  refine cond_d (fun hlt=> ?_) (fun hge=> ?_)
  ·have hlt':i<xs.length:=by simpa using hlt
   conv=>whnf
   refine loop_intro (fun t=>false) (fun p:List Rat×Nat=>ssSt2 b1 b2 b3 xs.length p.1 i p.2) (fun p=>p.1.Perm xs∧p.2≤i∧InI p.1 i p.2) (fun p=>p.2) (ys,i) mixed tOk ⟨hp,Nat.le_refl _,⟨fun a b ha hb hab h1 h2 h3=>hso a b ha hb hab (by show b<i;omega),fun b hj hb h1 h2=>by simp only at h1 h2;omega⟩⟩ ?_ ?_
   ·refine weak_x ⟨eqBP_refl _,⟨rfl,rfl,rfl,rfl,rfl⟩,eqBP_refl _,eqBP_refl _,eqBP_refl _,trivial⟩ ?_
    exact ⟨trivial,rfl,rfl,rfl,rfl,rfl,trivial⟩
   ·rintro ⟨zs,j⟩ ⟨hq,hj1,hin⟩
    simp only at hq hj1 hin
    dsimp only
    have hzl:=hq.length_eq
    conv=>whnf
    refine cond_d (fun c1=> ?_) (fun c1=> ?_)
    ·have c1':0<j:=by omega
     have hjl:j<zs.length:=by omega
     have hj0:j-1<zs.length:=by omega
     have qj:=hx _ (hq.mem_iff.1 (List.getElem_mem hjl))
     have qj0:=hx _ (hq.mem_iff.1 (List.getElem_mem hj0))
     have e3:((j:Int)-1).toNat=j-1:=by omega
     conv=>whnf
     refine sd_du (by rw [List.length_map];omega) (qL_uni _) ?_
     conv=>whnf
     refine rld_intro (i:=j) (r:=0) _ _ (qL_get hjl) (by omega) (by omega) (qL_uni _) rfl ?_
     conv=>whnf
     refine sd_d (by omega) ?_
     conv=>whnf
     refine sd_du (by rw [List.length_map];omega) (qL_uni _) ?_
     conv=>whnf
     refine rld_intro (i:=j-1) (r:=0) _ _ (by have:=qL_get hj0;exact this) (by omega) (by omega) (qL_uni _) rfl ?_
     conv=>whnf
     refine callv_data (cmp_q qj qj0) ?_
     conv=>whnf
     refine safe_intro (by kernel_rfl) ?_
     conv=>whnf
     refine cond_d (fun c2=> ?_) (fun c2=> ?_)
     ·have c2':zs[j] <zs[j-1] :=cmpI_neg.1 c2
      conv=>whnf
      refine sd_d (by omega) ?_
      conv=>whnf
      refine sd_d (by omega) ?_
      conv=>whnf
      refine sd_du (by rw [List.length_map];omega) (qL_uni _) ?_
      conv=>whnf
      refine rld_intro (i:=j-1) (r:=0) _ _ (by have:=qL_get hj0;exact this) (by omega) (by omega) (qL_uni _) rfl ?_
      conv=>whnf
      refine sd_du (by rw [List.length_map];omega) (qL_uni _) ?_
      conv=>whnf
      refine rld_intro (i:=j) (r:=0) _ _ (qL_get hjl) (by omega) (by omega) (qL_uni _) rfl ?_
      conv=>whnf
      refine sd_du (by rw [List.length_map];omega) (qL_uni _) ?_
      conv=>whnf
      refine rst_q (i:=j) zs[j-1] hjl (by omega) ?_
      conv=>whnf
      refine sd_du (by rw [List.length_map,List.length_set];omega) (qL_uni _) ?_
      conv=>whnf
      refine rst_q (i:=j-1) zs[j] (by rw [List.length_set];omega) (by omega) ?_
      conv=>whnf
      refine safe_intro (by kernel_rfl) ?_
      conv=>whnf
      refine sd_d (by omega) ?_
      conv=>whnf
      refine ⟨(swP zs j hjl hj0,j-1),⟨(List.set_set_perm hjl hj0).trans hq,by show j-1≤i;omega,hin.step c1' hj1 hjl hj0 c2'⟩,by show j-1<j;omega, ?_⟩
      rw [show ((j:Int)-1)=((j-1:Nat):Int) by omega]
      exact weak_x ⟨eqBP_refl _,⟨rfl,rfl,rfl,rfl,rfl⟩,eqBP_refl _,eqBP_refl _,eqBP_refl _,trivial⟩ ⟨trivial,rfl,rfl,rfl,rfl,rfl,trivial⟩
     ·have c2':zs[j-1] ≤zs[j] :=by
       have:=fun h=>c2 (cmpI_neg.2 h)
       grind
      have hd:=hin.done hj1 hjl (.inr ⟨hj0,c2'⟩)
      conv=>whnf
      refine sd_d (by omega) ?_
      conv=>whnf
      refine ⟨(zs,i+1),⟨hq,by show 1≤i+1;omega,.inl (by show i+1≤xs.length;omega),hd⟩,by show xs.length+1-(i+1)<xs.length+1-i;omega, ?_⟩
      exact weak_x ⟨eqBP_refl _,⟨rfl,rfl,rfl,rfl,rfl⟩,eqBP_refl _,eqBP_refl _,eqBP_refl _,trivial⟩ ⟨trivial,rfl,rfl,rfl,rfl,trivial⟩
    ·have hj:j=0:=by omega
     have hd:=hin.done hj1 (by omega) (.inl hj)
     conv=>whnf
     refine safe_intro (by kernel_rfl) ?_
     conv=>whnf
     refine sd_d (by omega) ?_
     conv=>whnf
     refine ⟨(zs,i+1),⟨hq,by show 1≤i+1;omega,.inl (by show i+1≤xs.length;omega),hd⟩,by show xs.length+1-(i+1)<xs.length+1-i;omega, ?_⟩
     exact weak_x ⟨eqBP_refl _,⟨rfl,rfl,rfl,rfl,rfl⟩,eqBP_refl _,eqBP_refl _,eqBP_refl _,trivial⟩ ⟨trivial,rfl,rfl,rfl,rfl,trivial⟩
  ·conv=>whnf
   refine hK _ ys hp fun a b ha hb hab hbl=>hso a b ha hb hab ?_
   omega
end Go.Nv
end
