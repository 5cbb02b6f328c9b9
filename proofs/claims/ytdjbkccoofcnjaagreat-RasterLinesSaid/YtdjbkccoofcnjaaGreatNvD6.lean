import Derived.Test.YtdjbkccoofcnjaaGreatNvD5
import Derived.Test.YtdjbkccoofcnjaaGreatNvC9
import Derived.Test.YtdjbkccoofcnjaaGreatNvN6
set_option linter.all false
set_option maxRecDepth 100000
section
namespace Go.Nv
open Go.Proofs Nw
theorem pdq_ok(b1 b2:B){xs:List Rat}{m:Int}(hx: ∀x∈xs,Q x)(hlen:xs.length≤12){c:Code}(hc:Tryz.f188.body=some c)(K:Ex→St→Prop)
  (hK: ∀env ys,ys.Perm xs→SoN ys ys.length→K .ret ⟨env, [.dead,.row 0 27 3 40 (qL ys),b1,b2,.dead]⟩):
  Ok Tryz.prog c ⟨fr 148 [(0,.own 1 0),(1,.d (i64 0)),(2,.d (i64 xs.length)),(3,.d (i64 m)),(4,.d (.f 34 []))], [.dead,.row 0 27 3 40 (qL xs),b1,b2]⟩ K:=by
 cases hc
 refine ok_go mixed tOk (mu:=fun t=>false) _ _ _ ?_
 refine unroll 1 (fun t=>false) mixed tOk ?_
 conv=>whnf
 refine sd_d (by omega) ?_
 conv=>whnf
 refine cond_dt (by omega) ?_
 conv=>whnf
 refine call_inl_ok mixed tOk (g:=264) (cap:= []) (fn:=Tryz.f264) (c:=_) rfl rfl rfl rfl ?_
 refine ins_ok b1 b2 (.ghost _) hx hlen rfl _ (fun env ys h1 h2=> ?_)
 conv=>whnf
 exact hK _ ys h1 h2
theorem sort_call{E:List S}{x:Tmp}{dst:Option Tmp}{K:St→Prop}{xs:List Rat}(hx: ∀x∈xs,Q x)(hlen:xs.length≤12)(h1:lk E x= .own 1 0)
  (hK: ∀ys,ys.Perm xs→SoN ys ys.length→frc ⟨putx E dst (tupS []), [.dead,.row 0 27 3 40 (qL ys),.dead,.dead,.dead]⟩ K):
  CallK Tryz.prog (.func 104) [.tmp x,.func 34] dst ⟨E, [.dead,.row 0 27 3 40 (qL xs)]⟩ K:=by
 have hll:(qL xs).length=xs.length:=by simp
 refine call_inl_ok mixed tOk (g:=104) (cap:= []) (fn:=Tryz.f104) (c:=_) rfl rfl rfl rfl ?_
 have e:mapX (evx (⟨E, [.dead,.row 0 27 3 40 (qL xs)]⟩:St).env) [Operand.tmp x,.func 34] = [.own 1 0,.d (.f 34 [])] :=by
  simp [mapX,evx,h1]
 rw [e]
 refine ok_go mixed tOk (mu:=fun t=>false) _ _ _ ?_
 conv=>whnf
 have hl:=len_small xs.length (by omega)
 rw [show (xs.length:Int)=((qL xs).length:Int)%18446744073709551616 by omega] at hl
 refine call_data rfl rfl hl ?_
 conv=>whnf
 refine call_inl_ok mixed tOk (g:=188) (cap:= []) (fn:=Tryz.f188) (c:=_) rfl rfl rfl rfl ?_
 rw [hll]
 refine pdq_ok (.ghost E) (.ghost _) hx hlen rfl _ (fun env ys h3 h4=> ?_)
 conv=>whnf
 have h5:=hK ys h3 h4
 rw [frc_eq] at h5
 rw [frcL_eq,frcL_eq]
 exact h5
theorem cloneQ_c(l:List P2)(hl:l.length≤1000000):Fun Tryz.prog 192 [.l (pL l)] [.l (pL l)] :=funO_fun (cloneR_c (pL l) (pL_uni l) (by simpa using hl)) (pL_uni l) (by decide)
structure Iv (n:Nat) (l:List P2):Prop where
 b: ∀p∈l,BP n p
 n:n<1000000
 len:l.length≤12
 lt: ∀i (h:i<l.length),l[i].1<l[i].2
 so: ∀i (h:i+1<l.length),l[i].1≤l[i+1].1
theorem sp_not{n:Nat}{l:List P2}(h:Iv n l){i:Nat}(hi:i<l.length):Fun Tryz.prog 125 [pD l[i]] [.v (.bool false)] :=by
 have bi:=h.b _ (List.getElem_mem hi)
 have:=h.n
 have he:=spempty_c (bi.q (by omega))
 rwa [show decide (0≤cmpI l[i].1 l[i].2)=false from decide_eq_false (by have:=cmpI_neg.2 (h.lt i hi);omega)] at he
theorem idxf_c{n:Nat}{l:List P2}(h:Iv n l):Fun Tryz.prog 274 [.l (pL l),.f 125 []] [i64 (-1)] :=by
 have hll:(pL l).length=l.length:=by simp
 have hlen:=h.len
 refine fun_of_go (fun t=>false) mixed tOk Tryz.func274 rfl rfl ?_
 conv=>whnf
 refine loop_intro (fun t=>false) (fun i:Nat=>⟨fr 19 [(0,.d (.l (pL l))),(1,.d (.f 125 [])),(7,.d (i64 (pL l).length)),(8,.d (i64 i))], []⟩) (fun i=>i≤l.length) (fun i=>l.length-i) 0 mixed tOk (by omega) ?_ ?_
 ·refine weak_r ?_ ?_<;>repeat' (first|exact trivial|exact rfl|apply And.intro)
 ·intro i hi
  conv=>whnf
  refine cond_d (fun hlt=> ?_) (fun hge=> ?_)
  ·have hlt':i<l.length:=by omega
   conv=>whnf
   refine idx_intro (pD l[i]) (pL_get hlt') (by omega) (pL_uni l) ?_
   conv=>whnf
   refine call_data rfl rfl (sp_not h hlt') ?_
   conv=>whnf
   refine sd_d (by omega) ?_
   conv=>whnf
   refine ⟨i+1,by omega,by omega, ?_⟩
   rw [Int.natCast_succ]
   refine weak_r ?_ ?_<;>repeat' (first|exact trivial|exact rfl|apply And.intro)
  ·conv=>whnf
   refine ⟨?_,trivial⟩
   conv=>whnf
theorem delf_c{n:Nat}{l:List P2}(h:Iv n l):Fun Tryz.prog 191 [.l (pL l),.f 125 []] [.l (pL l)] :=by
 refine fun_of_go (fun t=>t==7) mixed tOk Tryz.func191 rfl rfl ?_
 conv=>whnf
 refine call_data rfl rfl (idxf_c h) ?_
 conv=>whnf
 refine cond_dt rfl ?_
 conv=>whnf
 refine ⟨?_,trivial⟩
 conv=>whnf
theorem icmp_c{a b:P2}{n:Nat}(ha:BP n a)(hb:BP n b)(hn:n<1000000):Fun Tryz.prog 194 [pD a,pD b] [i64 (cmpI a.1 b.1)] :=by
 have q1:=ha.q (by omega)
 have q2:=hb.q (by omega)
 refine fun_of_go (fun t=>false) mixed tOk Tryz.func194 rfl rfl ?_
 conv=>whnf
 refine call_data rfl rfl (cmp_q q1.1 q2.1) ?_
 conv=>whnf
 refine ⟨?_,trivial⟩
 conv=>whnf
theorem insR_c{n:Nat}{l:List P2}(h:Iv n l):Fun Tryz.prog 326 [.l (pL l),i64 0,i64 l.length,.f 194 []] [] :=by
 have hll:(pL l).length=l.length:=by simp
 have hlen:=h.len
 refine fun_of_go (fun t=>false) mixed tOk Tryz.func326 rfl rfl ?_
 conv=>whnf
 refine sd_d (by omega) ?_
 conv=>whnf
 refine loop_intro (fun t=>false) (fun i:Nat=>⟨fr 53 [(0,.d (.l (pL l))),(1,.d (i64 0)),(2,.d (i64 l.length)),(3,.d (.f 194 [])),(8,.d (i64 (i+1)))], []⟩) (fun i=>i≤l.length) (fun i=>l.length+1-i) 0 mixed tOk (by omega) ?_ ?_
 ·refine weak_r ?_ ?_<;>repeat' (first|exact trivial|exact rfl|apply And.intro)
 ·intro i hi
  conv=>whnf
  refine cond_d (fun hlt=> ?_) (fun hge=> ?_)
  ·have h1:i+1<l.length:=by omega
   have h0:i<l.length:=by omega
   have m0:=h.b _ (List.getElem_mem h0)
   have m1:=h.b _ (List.getElem_mem h1)
   have hc: ¬cmpI l[i+1].1 l[i].1<0:=by
    have:=h.so i h1
    intro hx
    have:=cmpI_neg.1 hx
    grind
   have e1:((i:Int)+1)=((i+1:Nat):Int):=rfl
   conv=>whnf
   refine unroll 2 (fun t=>false) mixed tOk ?_
   conv=>whnf
   refine cond_dt (by omega) ?_
   conv=>whnf
   refine idx_intro (pD l[i+1]) (by rw [e1];exact pL_get h1) (by omega) (pL_uni _) ?_
   conv=>whnf
   refine sd_d (by omega) ?_
   conv=>whnf
   have e3:((i:Int)+1-1)=((i:Nat):Int):=by omega
   refine idx_intro (pD l[i]) (by rw [e3];exact pL_get h0) (by omega) (pL_uni _) ?_
   conv=>whnf
   refine callv_data (icmp_c m1 m0 h.n) ?_
   conv=>whnf
   refine safe_intro (by kernel_rfl) ?_
   conv=>whnf
   refine cond_df (by omega) ?_
   conv=>whnf
   refine sd_d (by omega) ?_
   conv=>whnf
   refine ⟨i+1,by omega,by omega, ?_⟩
   rw [Int.natCast_succ]
   refine weak_r ?_ ?_<;>repeat' (first|exact trivial|exact rfl|apply And.intro)
  ·conv=>whnf
   exact trivial
theorem stableR_c{n:Nat}{l:List P2}(h:Iv n l):Fun Tryz.prog 275 [.l (pL l),i64 l.length,.f 194 []] [] :=by
 have hi:=insR_c h
 have hlen:=h.len
 refine fun_of_go (fun t=>false) mixed tOk Tryz.func275 rfl rfl ?_
 conv=>whnf
 refine unroll 1 (fun t=>false) mixed tOk ?_
 conv=>whnf
 refine cond_df (by omega) ?_
 conv=>whnf
 refine call_data rfl rfl hi ?_
 conv=>whnf
 refine unroll 1 (fun t=>false) mixed tOk ?_
 conv=>whnf
 refine cond_df (by omega) ?_
 conv=>whnf
 exact trivial
theorem sortR_c{n:Nat}{l:List P2}(h:Iv n l):Fun Tryz.prog 193 [.l (pL l),.f 194 []] [] :=by
 have hi:=stableR_c h
 have hll:(pL l).length=l.length:=by simp
 rw [←hll] at hi
 refine fun_of_go (fun t=>false) mixed tOk Tryz.func193 rfl rfl ?_
 conv=>whnf
 refine call_data rfl rfl hi ?_
 conv=>whnf
 exact trivial
theorem chunk_c(xs:List Rat):Fun Tryz.prog 105 [.l (qL xs),i64 2] [.f 190 [.p 0 [.l (qL xs)],.p 0 [i64 2]]] :=by
 refine fun_of_go (fun t=>false) mixed tOk Tryz.func105 rfl rfl ?_
 conv=>whnf
 refine cond_df (by omega) ?_
 conv=>whnf
 refine ⟨?_,trivial⟩
 conv=>whnf
 rfl
def nmS(acc:List P2)(p:P2):List P2:=
 if h:0<acc.length then
  if (acc[acc.length-1]).2<p.1 then acc++ [p]
  else if (acc[acc.length-1]).2<p.2 then acc.set (acc.length-1) ((acc[acc.length-1]).1,p.2) else acc
 else acc++ [p]
def nmL(l:List P2)(i:Nat):List P2:=(l.take i).foldl nmS []
theorem nmS_len(acc:List P2)(p:P2):(nmS acc p).length≤acc.length+1:=by
 unfold nmS
 split
 ·split
  ·simp
  ·split<;>simp
 ·simp
theorem nmL_succ{l:List P2}{i:Nat}(h:i<l.length):nmL l (i+1)=nmS (nmL l i) l[i] :=by
 unfold nmL
 rw [List.take_succ_eq_append_getElem h,List.foldl_append]
 rfl
theorem nmL_len{l:List P2}(i:Nat)(h:i≤l.length):(nmL l i).length≤i:=by
 induction i with
 |zero=>simp [nmL]
 |succ i ih=>
  have:=ih (by omega)
  have:=nmS_len (nmL l i) (l[i]'(by omega))
  rw [nmL_succ (by omega)]
  omega
theorem nmS_bp{acc:List P2}{p:P2}{n:Nat}(ha: ∀q∈acc,BP n q)(hp:BP n p): ∀q∈nmS acc p,BP n q:=by
 intro q hq
 have happ:q∈acc++ [p] →BP n q:=fun h=>by
  rcases List.mem_append.1 h with h|h
  ·exact ha q h
  ·rw [List.mem_singleton.1 h];exact hp
 unfold nmS at hq
 split at hq
 ·split at hq
  ·exact happ hq
  ·split at hq
   ·rcases List.mem_or_eq_of_mem_set hq with h|h
    ·exact ha q h
    ·rw [h]
     exact ⟨(ha _ (List.getElem_mem _)).1,hp.2⟩
   ·exact ha q hq
 ·exact happ hq
theorem nmL_bp{l:List P2}{n:Nat}(h: ∀p∈l,BP n p)(i:Nat)(hi:i≤l.length): ∀q∈nmL l i,BP n q:=by
 induction i with
 |zero=>intro q hq;simp [nmL] at hq
 |succ i ih=>
  rw [nmL_succ (by omega)]
  exact nmS_bp (ih (by omega)) (h _ (List.getElem_mem _))
theorem rst_p2{i off:Nat}{xs:List P2}{K:List D→Prop}(v:Rat)(hi:i<xs.length)(ho:off=i*6+3)(k:K (pL (xs.set i (xs[i].1,v)))):RstG 3 6 (pL xs) off (ratD v) K:=by
 subst ho
 refine rst_intro _ ?_ rfl (pL_uni _) (by omega) k
 unfold setElem
 have h1:(i*6+3)/6=i:=by omega
 have h2:(i*6+3)%6=3:=by omega
 have hg:(pL xs)[i]? =some (pD xs[i]):=by simp [hi]
 simp only [h1,h2,hg]
 rw [show (pL (xs.set i (xs[i].1,v)))=(pL xs).set i (pD (xs[i].1,v)) from List.map_set ..]
 rfl
theorem normal_c{n:Nat}{l:List P2}(h:Iv n l):Fun Tryz.prog 106 [.l (pL l)] [.l (pL (nmL l l.length)),i64 0] :=by
 have hll:(pL l).length=l.length:=by simp
 have hlen:=h.len
 refine fun_of_go (fun t=>t==7) mixed tOk Tryz.func106 rfl rfl ?_
 conv=>whnf
 refine cond_df (by omega) ?_
 conv=>whnf
 refine call_data rfl rfl (cloneQ_c l (by omega)) ?_
 conv=>whnf
 refine call_data rfl rfl (delf_c h) ?_
 conv=>whnf
 refine call_data rfl rfl (sortR_c h) ?_
 conv=>whnf
 refine loop_intro (fun t=>t==7) (fun i:Nat=>⟨fr 64 [(5,.own 1 0),(17,.d (.l (pL l))),(18,.d (i64 (pL l).length)),(19,.d (i64 i))], [.dead,.row 0 147 6 80 (pL (nmL l i))]⟩) (fun i=>i≤l.length) (fun i=>l.length-i) 0 mixed tOk (by omega) ?_ ?_
 ·refine weak_dead 0 rfl ?_
  refine weak_r ?_ ?_<;>repeat' (first|exact trivial|exact rfl|apply And.intro)
 ·intro i hi
  have hnl:=nmL_len i hi
  have hnb:=nmL_bp h.b i hi
  conv=>whnf
  refine cond_d (fun hlt=> ?_) (fun hge=> ?_)
  ·have hlt':i<l.length:=by omega
   have bi:=h.b _ (List.getElem_mem hlt')
   have qi:=bi.q (by have:=h.n;omega)
   have hA:=nmL_succ hlt'
   generalize nmL l i=A at*
   have hal:(pL A).length=A.length:=by simp
   conv=>whnf
   refine idx_intro (pD l[i]) (pL_get hlt') (by omega) (pL_uni l) ?_
   conv=>whnf
   refine sd_d (by omega) ?_
   conv=>whnf
   refine cond_d (fun c1=> ?_) (fun c1=> ?_)
   ·have hA0:A.length=0:=by omega
    have hs:nmS A l[i] =A++ [l[i]] :=by unfold nmS;rw [dif_neg (by omega)]
    have hst:pL (A++ [l[i]])=pL A++ [pD l[i]] :=List.map_append ..
    conv=>whnf
    refine safe_intro (by kernel_rfl) ?_
    conv=>whnf
    refine call_data rfl rfl (spcanon_c bi h.n) ?_
    conv=>whnf
    refine sd_app (pL_uni _) (by intro x hx;rcases List.mem_singleton.1 hx with rfl;rfl) (by simp only [maxLen,List.length_cons,List.length_nil];omega) ?_
    conv=>whnf
    refine sd_d (by omega) ?_
    conv=>whnf
    refine ⟨i+1,by omega,by omega, ?_⟩
    rw [hA,hs,hst,Int.natCast_succ]
    refine weak_dead 2 rfl ?_
    refine weak_r ?_ ?_<;>repeat' (first|exact trivial|exact rfl|apply And.intro)
   ·have hA0:0<A.length:=by omega
    have e3:((A.length:Int)-1).toNat=A.length-1:=by omega
    have bl:=(hnb _ (List.getElem_mem (show A.length-1<A.length by omega))).q (by have:=h.n;omega)
    conv=>whnf
    refine sd_du (by omega) (pL_uni _) ?_
    conv=>whnf
    refine rld_intro (i:=A.length-1) (r:=3) _ (ratD (A[A.length-1]).2) (by have:=pL_get (l:=A) (i:=A.length-1) (by omega);exact this) (by omega) (by omega) (pL_uni _) rfl ?_
    conv=>whnf
    refine callv_data (cmp_q qi.1 bl.2) ?_
    conv=>whnf
    refine safe_intro (by kernel_rfl) ?_
    conv=>whnf
    refine cond_d (fun c2=> ?_) (fun c2=> ?_)
    ·have c2':=cmpI_pos.1 c2
     have hs:nmS A l[i] =A++ [l[i]] :=by unfold nmS;rw [dif_pos hA0,if_pos c2']
     have hst:pL (A++ [l[i]])=pL A++ [pD l[i]] :=List.map_append ..
     conv=>whnf
     refine call_data rfl rfl (spcanon_c bi h.n) ?_
     conv=>whnf
     refine sd_app (pL_uni _) (by intro x hx;rcases List.mem_singleton.1 hx with rfl;rfl) (by simp only [maxLen,List.length_cons,List.length_nil];omega) ?_
     conv=>whnf
     refine sd_d (by omega) ?_
     conv=>whnf
     refine ⟨i+1,by omega,by omega, ?_⟩
     rw [hA,hs,hst,Int.natCast_succ]
     refine weak_dead 2 rfl ?_
     refine weak_r ?_ ?_<;>repeat' (first|exact trivial|exact rfl|apply And.intro)
    ·have c2': ¬(A[A.length-1]).2<l[i].1:=fun h=>c2 (cmpI_pos.2 h)
     conv=>whnf
     refine sd_du (by omega) (pL_uni _) ?_
     conv=>whnf
     refine rld_intro (i:=A.length-1) (r:=3) _ (ratD (A[A.length-1]).2) (by have:=pL_get (l:=A) (i:=A.length-1) (by omega);exact this) (by omega) (by omega) (pL_uni _) rfl ?_
     conv=>whnf
     refine callv_data (cmp_q qi.2 bl.2) ?_
     conv=>whnf
     refine safe_intro (by kernel_rfl) ?_
     conv=>whnf
     refine cond_d (fun c3=> ?_) (fun c3=> ?_)
     ·have c3':=cmpI_pos.1 c3
      have hs:nmS A l[i] =A.set (A.length-1) ((A[A.length-1]).1,l[i].2):=by unfold nmS;rw [dif_pos hA0,if_neg c2',if_pos c3']
      conv=>whnf
      refine call_data rfl rfl (spcanon_c bi h.n) ?_
      conv=>whnf
      refine sd_du (by omega) (pL_uni _) ?_
      conv=>whnf
      refine rst_p2 (i:=A.length-1) l[i].2 (by omega) (by omega) ?_
      conv=>whnf
      refine sd_d (by omega) ?_
      conv=>whnf
      refine ⟨i+1,by omega,by omega, ?_⟩
      rw [hA,hs,Int.natCast_succ]
      refine weak_dead 2 rfl ?_
      refine weak_r ?_ ?_<;>repeat' (first|exact trivial|exact rfl|apply And.intro)
     ·have hs:nmS A l[i] =A:=by unfold nmS;rw [dif_pos hA0,if_neg c2',if_neg (fun h=>c3 (cmpI_pos.2 h))]
      conv=>whnf
      refine sd_d (by omega) ?_
      conv=>whnf
      refine ⟨i+1,by omega,by omega, ?_⟩
      rw [hA,hs,Int.natCast_succ]
      refine weak_dead 2 rfl ?_
      refine weak_r ?_ ?_<;>repeat' (first|exact trivial|exact rfl|apply And.intro)
  ·have:i=l.length:=by omega
   subst this
   conv=>whnf
   refine ⟨?_, ?_,trivial⟩
   ·conv=>whnf
   ·conv=>whnf
theorem Edges1_c{o:List P2}{hs:List (List P2)}{n:Nat}(ho: ∀p∈o,BP n p)(hlo:o.length≤100)(hh: ∀h∈hs,(∀p∈h,BP n p)∧h.length≤100)(hn:n<10000)(hlh:hs.length≤8)(hck:Fun Tryz.prog 48 [.a [.l (pL o),.l (hQ hs)]] [i64 0]):
  Fun Tryz.prog 103 [.a [.l (pL o),.l (hQ hs)]] [.l (eL (cyc o++hs.flatMap cyc)),i64 0] :=by
 refine fun_of_go (fun t=>false) mixed tOk Tryz.func103 rfl rfl ?_
 conv=>whnf
 refine call_data rfl rfl hck ?_
 conv=>whnf
 refine cond_bf (by decide) ?_
 conv=>whnf
 refine call_data rfl rfl (edges1_c ho hlo hh hn hlh) ?_
 conv=>whnf
 refine ⟨?_, ?_,trivial⟩
 ·conv=>whnf
 ·conv=>whnf
theorem sgnI_pos{p:Rat}:sgnI p>0↔0<p:=by
 rw [sgnI_eq];unfold sgnQ;constructor
 ·intro h;split at h<;>grind
 ·intro h;split<;>grind
def crs(y:Rat)(e:P2×P2):Bool:=decide (y<e.1.2) !=decide (y<e.2.2)
def crx(y:Rat)(e:P2×P2):Rat:=e.1.1+(e.2.1-e.1.1)*((e.1.2-y)/((e.1.2-y)-(e.2.2-y)))
def crL(y:Rat)(E:List (P2×P2)):List Rat:=(E.filter (crs y)).map (crx y)
theorem crL_snoc(y:Rat)(E:List (P2×P2))(e:P2×P2):crL y (E++ [e])=crL y E++(if crs y e then [crx y e] else []):=by
 unfold crL
 rw [List.filter_append,List.map_append]
 congr 1
 by_cases h:crs y e=true
 ·rw [if_pos h,List.filter_cons_of_pos h];rfl
 ·rw [if_neg h,List.filter_cons_of_neg h];rfl
theorem crL_len(y:Rat)(E:List (P2×P2)):(crL y E).length≤E.length:=by
 unfold crL
 rw [List.length_map]
 exact List.length_filter_le ..
def prL(ys:List Rat)(k:Nat):List P2:=((List.range k).map fun j=>(ys.getD (2*j) 0,ys.getD (2*j+1) 0)).filter fun p=> !decide (p.1=p.2)
theorem prL_succ(ys:List Rat)(k:Nat):prL ys (k+1)=prL ys k++(if ys.getD (2*k) 0=ys.getD (2*k+1) 0 then [] else [(ys.getD (2*k) 0,ys.getD (2*k+1) 0)]):=by
 unfold prL
 rw [List.range_succ,List.map_append,List.filter_append]
 congr 1
 by_cases h:ys.getD (2*k) 0=ys.getD (2*k+1) 0
 ·rw [if_pos h]
  exact List.filter_cons_of_neg (by simpa using h)
 ·rw [if_neg h]
  exact List.filter_cons_of_pos (by simpa using h)
theorem prL_len(ys:List Rat)(k:Nat):(prL ys k).length≤k:=by
 unfold prL
 refine Nat.le_trans (List.length_filter_le ..) ?_
 simp
theorem so_uniq: ∀{l m:List Rat},l.Pairwise (· ≤ ·)→m.Pairwise (· ≤ ·)→l.Perm m→l=m
 | [],m,_,_,h=>(List.nil_perm.1 h).symm
 |a::t, [],_,_,h=>absurd (List.perm_nil.1 h) (by simp)
 |a::t,b::u,h1,h2,h=>by
  have h1':=List.pairwise_cons.1 h1
  have h2':=List.pairwise_cons.1 h2
  have e:a=b:=by
   have m1:a∈b::u:=h.mem_iff.1 List.mem_cons_self
   have m2:b∈a::t:=h.mem_iff.2 List.mem_cons_self
   rcases List.mem_cons.1 m1 with e|e
   ·exact e
   ·rcases List.mem_cons.1 m2 with f|f
    ·exact f.symm
    ·have:=h1'.1 b f
     have:=h2'.1 a e
     grind
  subst e
  rw [so_uniq h1'.2 h2'.2 (List.Perm.cons_inv h)]
theorem prL_iv{ys:List Rat}{M n:Nat}(hyl:ys.length=2*M)(hml:M≤6)(hso:SoN ys ys.length)(hb: ∀x∈ys,Bd n x)(hn:n<1000000):Iv n (prL ys M):=by
 have hg: ∀j,j<ys.length→ys.getD j 0∈ys:=fun j hj=>by
  rw [List.getD_eq_getElem?_getD,List.getElem?_eq_getElem hj]
  exact List.getElem_mem hj
 have hs: ∀i j,i<j→j<ys.length→ys.getD i 0≤ys.getD j 0:=fun i j hij hj=>by
  rw [List.getD_eq_getElem?_getD,List.getD_eq_getElem?_getD,List.getElem?_eq_getElem hj,List.getElem?_eq_getElem (show i<ys.length by omega)]
  exact hso i j (by omega) hj hij hj
 have hm: ∀p∈prL ys M,∃j,j<M∧p=(ys.getD (2*j) 0,ys.getD (2*j+1) 0)∧p.1≠p.2:=by
  intro p hp
  unfold prL at hp
  obtain ⟨h1,h2⟩:=List.mem_filter.1 hp
  obtain ⟨j,h3,h4⟩:=List.mem_map.1 h1
  exact ⟨j,List.mem_range.1 h3,h4.symm,by simpa using h2⟩
 have hpw:(prL ys M).Pairwise fun p q=>p.1≤q.1:=by
  unfold prL
  refine List.Pairwise.filter _ ?_
  rw [List.pairwise_iff_getElem]
  intro i j hi hj hij
  simp only [List.length_map,List.length_range] at hi hj
  simp only [List.getElem_map,List.getElem_range]
  exact hs _ _ (by omega) (by omega)
 refine ⟨fun p hp=> ?_,hn,Nat.le_trans (prL_len ys M) (by omega),fun i h=> ?_,fun i h=> ?_⟩
 ·obtain ⟨j,h1,h2,_⟩:=hm p hp
  rw [h2]
  exact ⟨hb _ (hg _ (by omega)),hb _ (hg _ (by omega))⟩
 ·obtain ⟨j,h1,h2,h3⟩:=hm _ (List.getElem_mem h)
  have h4:=hs (2*j) (2*j+1) (by omega) (by omega)
  rw [h2] at h3 ⊢
  simp only at h3 ⊢
  grind
 ·exact List.pairwise_iff_getElem.1 hpw i (i+1) (by omega) h (by omega)
noncomputable def lnSt(ys:List Rat)(k:Nat):St:=
 ⟨fr 31 [(0,.own 7 0),(1,.d (.p 0 [.l (qL ys)])),(2,.d (.p 0 [i64 2])),(4,.d (i64 (2*k:Nat)))],
  [.dead,.dead,.dead,.dead,.dead,.box 71 [.own 6 0],.row 0 147 6 80 (pL (prL ys k)),
  .loop .ready none #[77] (rfO Tryz.f41.body).1 (rfO Tryz.f41.body).2 (fr 106 [(15,.ptr 5 0 0)])]⟩
theorem lines_c{o:List P2}{hs:List (List P2)}{y:Rat}{n:Nat}(ho: ∀p∈o,BP n p)(hlo:o.length≤100)(hh: ∀h∈hs,(∀p∈h,BP n p)∧h.length≤100)(hn:n<10000)(hy:Bd n y)(hlh:hs.length≤8)(hck:Fun Tryz.prog 48 [.a [.l (pL o),.l (hQ hs)]] [i64 0])
  {E:List (P2×P2)} (hE:E=cyc o++hs.flatMap cyc) (hlE:E.length≤12) {M:Nat} (hM:(crL y E).length=2*M) {ys:List Rat} (hpp:ys.Perm (crL y E)) (hss:ys.Pairwise (· ≤ ·)):
  Fun Tryz.prog 41 [.a [.l (pL o),.l (hQ hs)],ratD y] [.l (pL (nmL (prL ys M) (prL ys M).length)),i64 0] :=by
 have qy:Q y:= .mk hy (by omega)
 have hed:=Edges1_c ho hlo hh hn hlh hck
 rw [←hE] at hed
 have hbE: ∀e∈E,BP n e.1∧BP n e.2:=by
  have hcy: ∀l:List P2,(∀p∈l,BP n p)→ ∀e∈cyc l,BP n e.1∧BP n e.2:=fun l hl e he=>⟨hl _ (cyc_mem he).1,hl _ (cyc_mem he).2⟩
  intro e he
  rw [hE] at he
  rcases List.mem_append.1 he with h|h
  ·exact hcy o ho e h
  ·obtain ⟨l,h1,h2⟩:=List.mem_flatMap.1 h
   exact hcy l (hh l h1).1 e h2
 have hbx: ∀x∈crL y E,Bd (10*n+10) x:=by
  intro x hx
  unfold crL at hx
  obtain ⟨e,he,rfl⟩:=List.mem_map.1 hx
  have hbe:=hbE e (List.mem_filter.1 he).1
  have d1:=hbe.1.2.sub hy
  have d2:=hbe.2.2.sub hy
  exact (hbe.1.1.add ((hbe.2.1.sub hbe.1.1).mul (d1.div (d1.sub d2)))).mono (by omega)
 have hel:(eL E).length=E.length:=by simp
 refine fun_of_go (fun t=>t==10||t==11||t==12||t==13||t==15) mixed tOk Tryz.func41 rfl rfl ?_
 conv=>whnf
 refine call_data rfl rfl hed ?_
 conv=>whnf
 refine cond_bf (by decide) ?_
 conv=>whnf
 refine call_data rfl rfl (check_q qy) ?_
 conv=>whnf
 refine cond_bf (by decide) ?_
 conv=>whnf
 refine loop_intro (fun t=>t==10||t==11||t==12||t==13||t==15) (fun i:Nat=>⟨fr 106 [(3,.d (.p 0 (ratD y).cells)),(8,.own 1 0),(31,.d (.l (eL E))),(32,.d (i64 (eL E).length)),(33,.d (i64 i))], [.dead,.row 0 27 3 40 (qL (crL y (E.take i)))]⟩) (fun i=>i≤E.length) (fun i=>E.length-i) 0 mixed tOk (by omega) ?_ ?_
 ·refine weak_dead 0 rfl ?_
  refine weak_r ?_ ?_<;>repeat' (first|exact trivial|exact rfl|apply And.intro)
 ·intro i hi
  conv=>whnf
  refine cond_d (fun hlt=> ?_) (fun hge=> ?_)
  ·have hlt':i<E.length:=by omega
   have hbe:=hbE _ (List.getElem_mem hlt')
   have hsn:crL y (E.take (i+1))=crL y (E.take i)++(if crs y E[i] then [crx y E[i]] else []):=by rw [List.take_succ_eq_append_getElem hlt',crL_snoc]
   have hln:(crL y (E.take i)).length≤i:=by have:=crL_len y (E.take i);rw [List.length_take] at this;omega
   have hget:(eL E)[(i:Int).toNat]? =some (sD E[i].1 E[i].2):=by simp [hlt']
   generalize crL y (E.take i)=A at*
   generalize E[i] =e at*
   obtain ⟨a,b⟩:=e
   have hal:(qL A).length=A.length:=by simp
   have q1:Q a.2:= .mk hbe.1.2 (by omega)
   have q2:Q b.2:= .mk hbe.2.2 (by omega)
   have d1:=hbe.1.2.sub hy
   have d2:=hbe.2.2.sub hy
   have qd1:Q (a.2-y):= .mk d1 (by omega)
   have qd2:Q (b.2-y):= .mk d2 (by omega)
   conv=>whnf
   refine idx_intro (sD a b) hget (by omega) (eL_uni _) ?_
   conv=>whnf
   refine callv_data (sub_q q1 qy) ?_
   conv=>whnf
   refine callv_data (sub_q q2 qy) ?_
   conv=>whnf
   refine safe_intro (by kernel_rfl) ?_
   conv=>whnf
   refine callv_data (sign_q qd1) ?_
   conv=>whnf
   refine callv_data (sign_q qd2) ?_
   conv=>whnf
   refine safe_intro (by kernel_rfl) ?_
   conv=>whnf
   have hcb:bz (!(bz (decide (sgnI (a.2-y)>0))==bz (decide (sgnI (b.2-y)>0))))=crs y (a,b):=by
    rw [bz_eq,bz_eq,bz_eq]
    have e1:decide (sgnI (a.2-y)>0)=decide (y<a.2):=by rw [decide_eq_decide,sgnI_pos];constructor<;>intro h<;>grind
    have e2:decide (sgnI (b.2-y)>0)=decide (y<b.2):=by rw [decide_eq_decide,sgnI_pos];constructor<;>intro h<;>grind
    rw [e1,e2]
    rfl
   refine cond_intro (fun c1=> ?_) (fun c1=> ?_)
   ·rw [hcb] at c1
    rw [if_pos c1] at hsn
    have hne:(a.2-y)-(b.2-y)≠0:=by
     intro h0
     have h1:a.2=b.2:=by grind
     unfold crs at c1
     rw [h1] at c1
     simp at c1
    have d3:=d1.sub d2
    have d4:=d1.div d3
    have hq:=quo_q qd1 (.mk d3 (by omega))
    rw [show eQ ((a.2-y)-(b.2-y))=0 by unfold eQ;rw [if_neg hne]] at hq
    conv=>whnf
    refine callv_data (sub_q qd1 qd2) ?_
    conv=>whnf
    refine callv_data hq ?_
    conv=>whnf
    refine safe_intro (by kernel_rfl) ?_
    conv=>whnf
    refine call_data rfl rfl (vat_c hbe.1.1 hbe.1.2 hbe.2.1 hbe.2.2 d4 (by omega) (by omega)) ?_
    conv=>whnf
    refine sd_app (qL_uni _) (by intro x hx;rcases List.mem_singleton.1 hx with rfl;rfl) (by simp only [maxLen,List.length_cons,List.length_nil];omega) ?_
    conv=>whnf
    refine sd_d (by omega) ?_
    conv=>whnf
    have hst:qL (A++ [crx y (a,b)])=qL A++ [ratD (crx y (a,b))] :=List.map_append ..
    refine ⟨i+1,by omega,by omega, ?_⟩
    rw [hsn,hst,Int.natCast_succ]
    refine weak_dead 2 rfl ?_
    refine weak_dead 3 rfl ?_
    refine weak_dead 4 rfl ?_
    refine weak_dead 5 rfl ?_
    refine weak_r ?_ ?_<;>repeat' (first|exact trivial|exact rfl|apply And.intro)
   ·rw [hcb] at c1
    rw [if_neg (by rw [c1];decide)] at hsn
    conv=>whnf
    refine sd_d (by omega) ?_
    conv=>whnf
    refine ⟨i+1,by omega,by omega, ?_⟩
    rw [hsn,List.append_nil,Int.natCast_succ]
    refine weak_dead 2 rfl ?_
    refine weak_dead 3 rfl ?_
    refine weak_dead 4 rfl ?_
    refine weak_r ?_ ?_<;>repeat' (first|exact trivial|exact rfl|apply And.intro)
  ·have hiE:i=E.length:=by omega
   subst hiE
   rw [show E.take E.length=E from List.take_length]
   conv=>whnf
   refine sort_call (x:=73) (fun x hx=> .mk (hbx x hx) (by omega)) (Nat.le_trans (crL_len y E) hlE) rfl (fun ys' hp hso'=> ?_)
   have hys:ys=ys':=(so_uniq (List.pairwise_iff_getElem.2 fun i j hi hj hij=>hso' i j hi hj hij hj) hss (hp.trans hpp.symm)).symm
   subst hys
   have hso:=hso'
   have hyl:ys.length=2*M:=by rw [←hM];exact hp.length_eq
   have hml:M≤6:=by have:=crL_len y E;omega
   have hyq:(qL ys).length=2*M:=by rw [List.length_map];exact hyl
   conv=>whnf
   refine call_frz 1 (call_data rfl rfl (chunk_c ys) ?_)
   conv=>whnf
   refine okc_own 5 0 147 6 80 ?_
   refine range_intro (g:=190) (cap:= [.d (.p 0 [.l (qL ys)]),.d (.p 0 [i64 2])]) (fun t=>t==10||t==11||t==12||t==13||t==15) mixed tOk rfl rfl rfl rfl rfl ?_
   conv=>whnf
   refine loop_introI (fun t=>t==10||t==11||t==12||t==13||t==15) 4 (fun k:Nat=>lnSt ys k) (fun k=>k≤M) (fun k=>M-k) 0 mixed tOk (by omega) ?_ ?_
   ·unfold lnSt
    rw [show prL ys 0= [] from rfl]
    refine weak_l ?_ ?_<;>repeat' (first|exact trivial|exact rfl|apply And.intro)
   ·intro k hk
    conv=>whnf
    refine cond_d (fun hlt=> ?_) (fun hge=> ?_)
    ·have hkM:k<M:=by omega
     have hc27:Tryz.prog.cellsOf 27=3:=by kernel_rfl
     have hsl:(subL (qL ys) ((2*k:Nat):Int).toNat ((qL ys).length:Int).toNat).length=2*M-2*k:=by
      unfold subL
      rw [List.length_drop,List.length_take]
      omega
     have hmin:(if ((subL (qL ys) ((2*k:Nat):Int).toNat ((qL ys).length:Int).toNat).length:Int)<2 then ((subL (qL ys) ((2*k:Nat):Int).toNat ((qL ys).length:Int).toNat).length:Int) else 2)=2:=by
      rw [hsl,if_neg (by omega)]
     have hsub:subL (qL ys) (2*k) (2*k+2)= [ratD (ys.getD (2*k) 0),ratD (ys.getD (2*k+1) 0)] :=by
      unfold subL
      rw [List.drop_take,show 2*k+2-2*k=2 by omega,List.drop_eq_getElem_cons (by omega),List.drop_eq_getElem_cons (by omega),List.getElem_map,List.getElem_map,List.getD_eq_getElem?_getD,List.getD_eq_getElem?_getD,List.getElem?_eq_getElem (by omega),List.getElem?_eq_getElem (by omega)]
      rfl
     conv=>whnf
     refine sd_du (by omega) (qL_uni _) ?_
     conv=>whnf
     refine safe_intro (by kernel_rfl) ?_
     conv=>whnf
     refine okc_intro (ok_ops ?_)
     refine okOps_go (fun t=>t==10||t==11||t==12||t==13||t==15) tOk rfl ?_
     conv=>whnf
     rw [hmin]
     refine okOps_go (fun t=>t==10||t==11||t==12||t==13||t==15) tOk rfl ?_
     conv=>whnf
     refine okOps_go (fun t=>t==10||t==11||t==12||t==13||t==15) tOk rfl ?_
     conv=>whnf
     refine okOps_go (fun t=>t==10||t==11||t==12||t==13||t==15) tOk rfl ?_
     conv=>whnf
     refine okOps_go (fun t=>t==10||t==11||t==12||t==13||t==15) tOk rfl ?_
     conv=>whnf
     refine okOps_go (fun t=>t==10||t==11||t==12||t==13||t==15) tOk rfl ?_
     conv=>whnf
     refine sd_d (by omega) ?_
     conv=>whnf
     refine okOps_go (fun t=>t==10||t==11||t==12||t==13||t==15) tOk rfl ?_
     conv=>whnf
     refine okOps_go (fun t=>t==10||t==11||t==12||t==13||t==15) tOk rfl ?_
     conv=>whnf
     refine okOps_go (fun t=>t==10||t==11||t==12||t==13||t==15) tOk rfl ?_
     conv=>whnf
     refine sd_d (by omega) ?_
     conv=>whnf
     refine okOps_cons rfl (okOp_sl3 (l:=2*k) (h:=2*k+2) (mm:=2*k+2) (xs:=qL ys) (ee:=27) rfl rfl rfl rfl rfl Tryz.underlying34 (by rw [hc27];decide) (by rw [hc27];exact qL_uni _) (by omega) (by omega) (by omega) ?_)
     rw [hsub]
     have hpr:=prL_succ ys k
     have hqa:Bd (10*n+10) (ys.getD (2*k) 0):=by
      rw [List.getD_eq_getElem?_getD,List.getElem?_eq_getElem (by omega)]
      exact hbx _ (hp.mem_iff.1 (List.getElem_mem _))
     have hqb:Bd (10*n+10) (ys.getD (2*k+1) 0):=by
      rw [List.getD_eq_getElem?_getD,List.getElem?_eq_getElem (by omega)]
      exact hbx _ (hp.mem_iff.1 (List.getElem_mem _))
     have hpl:(pL (prL ys k)).length≤k:=by rw [List.length_map];exact prL_len ys k
     generalize ys.getD (2*k) 0=xa at*
     generalize ys.getD (2*k+1) 0=xb at*
     refine okOps_go (fun t=>t==10||t==11||t==12||t==13||t==15) tOk rfl ?_
     conv=>whnf
     refine call_yield (fun t=>t==10||t==11||t==12||t==13||t==15) mixed tOk rfl rfl rfl ?_
     conv=>whnf
     refine okc_go (fun t=>t==10||t==11||t==12||t==13||t==15) mixed tOk ?_
     conv=>whnf
     refine cond_bt (show (((2:Nat):Int)==2)=true by decide) ?_
     conv=>whnf
     refine idx_intro (ratD xa) rfl (by omega) (by intro x hx;simp at hx;rcases hx with rfl|rfl<;>rfl) ?_
     conv=>whnf
     refine idx_intro (ratD xb) rfl (by omega) (by intro x hx;simp at hx;rcases hx with rfl|rfl<;>rfl) ?_
     conv=>whnf
     refine safe_intro (by kernel_rfl) ?_
     conv=>whnf
     have hce:eqDs (List.take ti27.cells (List.drop 0 (ratD xa).cells)) (List.take ti27.cells (List.drop 0 (ratD xb).cells))=decide (xa=xb):=eqDs_rat xa xb
     rw [hce]
     refine cond_intro (fun c1=> ?_) (fun c1=> ?_)
     ·have hne:xa≠xb:=by
       rw [bz_eq] at c1
       simpa using c1
      rw [if_neg hne] at hpr
      have hst:pL (prL ys (k+1))=pL (prL ys k)++ [pD (xa,xb)] :=by rw [hpr];exact List.map_append ..
      conv=>whnf
      refine okc_go (fun t=>t==10||t==11||t==12||t==13||t==15) mixed tOk ?_
      conv=>whnf
      refine idx_intro (ratD xa) rfl (by omega) (by intro x hx;simp at hx;rcases hx with rfl|rfl<;>rfl) ?_
      conv=>whnf
      refine idx_intro (ratD xb) rfl (by omega) (by intro x hx;simp at hx;rcases hx with rfl|rfl<;>rfl) ?_
      conv=>whnf
      refine sd_app (pL_uni _) (by intro x hx;rcases List.mem_singleton.1 hx with rfl;rfl) (by simp only [maxLen,List.length_cons,List.length_nil];omega) ?_
      conv=>whnf
      refine safe_intro (by kernel_rfl) ?_
      conv=>whnf
      refine okOps_go (fun t=>t==10||t==11||t==12||t==13||t==15) tOk rfl ?_
      conv=>whnf
      refine okOps_nil ?_
      conv=>whnf
      refine sd_d (by omega) ?_
      conv=>whnf
      refine ⟨k+1,by omega,by omega, ?_⟩
      unfold lnSt
      rw [hst,show ((2*k:Nat):Int)+2=((2*(k+1):Nat):Int) by omega]
      refine weak_l ?_ ?_<;>repeat' (first|exact trivial|exact rfl|apply And.intro)
     ·have hne:xa=xb:=by
       rw [bz_eq] at c1
       simpa using c1
      rw [if_pos hne,List.append_nil] at hpr
      conv=>whnf
      refine okOps_go (fun t=>t==10||t==11||t==12||t==13||t==15) tOk rfl ?_
      conv=>whnf
      refine okOps_nil ?_
      conv=>whnf
      refine sd_d (by omega) ?_
      conv=>whnf
      refine ⟨k+1,by omega,by omega, ?_⟩
      unfold lnSt
      rw [hpr,show ((2*k:Nat):Int)+2=((2*(k+1):Nat):Int) by omega]
      refine weak_l ?_ ?_<;>repeat' (first|exact trivial|exact rfl|apply And.intro)
    ·have hkM:k=M:=by omega
     subst hkM
     have hiv:=prL_iv hyl hml hso (fun x hx=>hbx x (hp.mem_iff.1 hx)) (by omega)
     conv=>whnf
     refine call_frz 6 (call_data rfl rfl (normal_c hiv) ?_)
     conv=>whnf
     refine ⟨?_, ?_,trivial⟩
     ·conv=>whnf
     ·conv=>whnf
end Go.Nv
end
