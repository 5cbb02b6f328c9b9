import Derived.Test.YtdjbkccoofcnjaaGreatNvD13
import Derived.Test.YtdjbkccoofcnjaaGreatNvD2
import Derived.Test.YtdjbkccoofcnjaaGreatNvD5
import Derived.Test.YtdjbkccoofcnjaaGreatNvD6
set_option linter.all false
set_option maxRecDepth 100000
section
namespace Go.Nv
open Go.Proofs Nw
theorem sgE_ne{a b:P2}(h:a≠b):sgE a.1 a.2 b.1 b.2=0:=by
 unfold sgE;rw [if_neg (fun hh=>h (pt_eq.1 hh))]
theorem fsmeet_c{a b c d:P2}{n:Nat}(ha:BP n a)(hb:BP n b)(hc:BP n c)(hd:BP n d)(hab:a≠b)(hcd:c≠d)(hn:n<1000000):
  Fun Tryz.prog 239 [sD a b,sD c d] [mtV (mtQ a b c d),.v (.bool (mtQ a b c d).isSome),i64 0] :=by
 have qa:=ha.q (by omega)
 have qb:=hb.q (by omega)
 have qc:=hc.q (by omega)
 have qd:=hd.q (by omega)
 have k1:=fscheck_c qa.1 qa.2 qb.1 qb.2
 have k2:=fscheck_c qc.1 qc.2 qd.1 qd.2
 rw [sgE_ne hab] at k1
 rw [sgE_ne hcd] at k2
 have o1:Fun Tryz.prog 303 [sD a b] [sD (ordP a b).1 (ordP a b).2] :=forder_c ha hb hn
 have o2:Fun Tryz.prog 303 [sD c d] [sD (ordP c d).1 (ordP c d).2] :=forder_c hc hd hn
 have b1:=ordP_q (P:=BP n) ha hb
 have b2:=ordP_q (P:=BP n) hc hd
 rw [←fmQ_mt hab hcd]
 unfold fmQ
 generalize (ordP a b).1=x at*
 generalize (ordP a b).2=y at*
 generalize (ordP c d).1=z at*
 generalize (ordP c d).2=w at*
 have qx:=b1.1.q (by omega)
 have qy:=b1.2.q (by omega)
 have qz:=b2.1.q (by omega)
 have qw:=b2.2.q (by omega)
 have du:=b1.2.su b1.1
 have dv:=b2.2.su b2.1
 have dw:=b2.1.su b1.1
 have bD:=du.cr dv
 have bN:=dw.cr dv
 refine fun_of_go (fun t=>t==2||t==3||t==4||t==7||t==8||t==9||t==10||t==11||t==12||t==14) mixed tOk Tryz.func239 rfl rfl ?_
 conv=>whnf
 refine call_data rfl rfl k1 ?_
 conv=>whnf
 refine cond_bf (by decide) ?_
 conv=>whnf
 refine call_data rfl rfl k2 ?_
 conv=>whnf
 refine cond_bf (by decide) ?_
 conv=>whnf
 refine callv_data o1 ?_
 conv=>whnf
 refine callv_data o2 ?_
 conv=>whnf
 refine safe_intro (by kernel_rfl) ?_
 conv=>whnf
 refine callv_data (fsub_c qy.1 qy.2 qx.1 qx.2) ?_
 conv=>whnf
 refine callv_data (fsub_c qw.1 qw.2 qz.1 qz.2) ?_
 conv=>whnf
 refine safe_intro (by kernel_rfl) ?_
 conv=>whnf
 refine call_data rfl rfl (fcross_c du dv (by omega)) ?_
 conv=>whnf
 refine call_data rfl rfl (rsign_q (.mk bD (by omega))) ?_
 conv=>whnf
 refine cond_e (fun h1=> ?_) (fun h1=> ?_)
 ·have hD:crQ (su y x) (su w z)=0:=sgnI_zero.1 h1
  conv=>whnf
  refine call_data rfl rfl (forient_c b1.1 b1.2 b2.1 (by omega)) ?_
  conv=>whnf
  refine cond_ne (fun h2=> ?_) (fun h2=> ?_)
  ·rw [show fm0 x y z w=none by unfold fm0;rw [if_pos hD,if_pos h2]]
   conv=>whnf
   refine ⟨?_, ?_, ?_,trivial⟩
   ·rw [mtV0]
    conv=>whnf
    exact ⟨rfl,rfl,rfl,rfl,rfl,rfl,rfl,rfl,rfl,rfl,rfl,rfl,trivial⟩
   ·conv=>whnf
    rfl
   ·conv=>whnf
  ·have e0:fm0 x y z w=if 0<cmP (gtrP x z) (lsrP y w) then none else some (gtrP x z,lsrP y w):=by
    unfold fm0;rw [if_pos hD,if_neg (fun hh=>hh h2)]
   have g1:Fun Tryz.prog 304 [pD x,pD z] [pD (gtrP x z)] :=fgreater_c qx qz
   have g2:Fun Tryz.prog 305 [pD y,pD w] [pD (lsrP y w)] :=flesser_c qy qw
   have q1:=gtrP_q (P:=QP) qx qz
   have q2:=lsrP_q (P:=QP) qy qw
   rw [e0]
   generalize gtrP x z=g at*
   generalize lsrP y w=m at*
   conv=>whnf
   refine callv_data g1 ?_
   conv=>whnf
   refine callv_data g2 ?_
   conv=>whnf
   refine safe_intro (by kernel_rfl) ?_
   conv=>whnf
   refine call_data rfl rfl (fcmp2_c q1 q2) ?_
   conv=>whnf
   refine cond_d (fun h3=> ?_) (fun h3=> ?_)
   ·rw [if_pos h3]
    conv=>whnf
    refine ⟨?_, ?_, ?_,trivial⟩
    ·rw [mtV0]
     conv=>whnf
     exact ⟨rfl,rfl,rfl,rfl,rfl,rfl,rfl,rfl,rfl,rfl,rfl,rfl,trivial⟩
    ·conv=>whnf
     rfl
    ·conv=>whnf
   ·rw [if_neg h3]
    conv=>whnf
    refine ⟨?_, ?_, ?_,trivial⟩
    ·conv=>whnf
     exact ⟨rfl,rfl,rfl,rfl,rfl,rfl,rfl,rfl,rfl,rfl,rfl,rfl,trivial⟩
    ·conv=>whnf
     rfl
    ·conv=>whnf
 ·have hD:crQ (su y x) (su w z)≠0:=fun h=>h1 (sgnI_zero.2 h)
  have bk:=bN.div bD
  have e0:fm0 x y z w=if bwB x y (lin x y (crQ (su z x) (su w z)/crQ (su y x) (su w z)))&&bwB z w (lin x y (crQ (su z x) (su w z)/crQ (su y x) (su w z))) then
   some (lin x y (crQ (su z x) (su w z)/crQ (su y x) (su w z)),lin x y (crQ (su z x) (su w z)/crQ (su y x) (su w z))) else none:=by
    unfold fm0;rw [if_neg hD]
  rw [e0]
  conv=>whnf
  refine callv_data (fsub_c qz.1 qz.2 qx.1 qx.2) ?_
  conv=>whnf
  refine callv_data (fcross_c dw dv (by omega)) ?_
  conv=>whnf
  refine callv_data (rquo_q (.mk bN (by omega)) (.mk bD (by omega)) hD) ?_
  conv=>whnf
  refine safe_intro (by kernel_rfl) ?_
  conv=>whnf
  have hk: ∃k,k=crQ (su z x) (su w z)/crQ (su y x) (su w z):=⟨_,rfl⟩
  obtain ⟨k,hk⟩:=hk
  rw [←hk] at bk ⊢
  have m1:=du.1.mul bk
  have m2:=du.2.mul bk
  have p1:=b1.1.1.add m1
  have p2:=b1.1.2.add m2
  refine callv_data (fscale_c (.mk du.1 (by omega)) (.mk du.2 (by omega)) (.mk bk (by omega))) ?_
  conv=>whnf
  refine callv_data (fadd_c qx.1 qx.2 (.mk m1 (by omega)) (.mk m2 (by omega))) ?_
  conv=>whnf
  refine safe_intro (by kernel_rfl) ?_
  conv=>whnf
  have qp:QP (lin x y k):=⟨.mk p1 (by omega),.mk p2 (by omega)⟩
  have t1:Fun Tryz.prog 306 [sD x y,pD (lin x y k)] [.v (.bool (bwB x y (lin x y k)))] :=fsbetween_c qx qy qp
  have t2:Fun Tryz.prog 306 [sD z w,pD (lin x y k)] [.v (.bool (bwB z w (lin x y k)))] :=fsbetween_c qz qw qp
  refine call_data rfl rfl t1 ?_
  conv=>whnf
  refine cond_nb (fun h3=> ?_) (fun h3=> ?_)
  ·rw [h3]
   conv=>whnf
   refine ⟨?_, ?_, ?_,trivial⟩
   ·rw [show (if (false&&bwB z w (lin x y k))=true then some (lin x y k,lin x y k) else none:Option (P2×P2))=none from rfl,mtV0]
    conv=>whnf
    exact ⟨rfl,rfl,rfl,rfl,rfl,rfl,rfl,rfl,rfl,rfl,rfl,rfl,trivial⟩
   ·conv=>whnf
    rfl
   ·conv=>whnf
  ·rw [h3]
   conv=>whnf
   refine call_data rfl rfl t2 ?_
   conv=>whnf
   refine cond_nb (fun h4=> ?_) (fun h4=> ?_)
   ·rw [h4]
    conv=>whnf
    refine ⟨?_, ?_, ?_,trivial⟩
    ·rw [show (if (true&&false)=true then some (lin x y k,lin x y k) else none:Option (P2×P2))=none from rfl,mtV0]
     conv=>whnf
     exact ⟨rfl,rfl,rfl,rfl,rfl,rfl,rfl,rfl,rfl,rfl,rfl,rfl,trivial⟩
    ·conv=>whnf
     rfl
    ·conv=>whnf
   ·rw [h4]
    conv=>whnf
    refine ⟨?_, ?_, ?_,trivial⟩
    ·conv=>whnf
     exact ⟨rfl,rfl,rfl,rfl,rfl,rfl,rfl,rfl,rfl,rfl,rfl,rfl,trivial⟩
    ·conv=>whnf
     rfl
    ·conv=>whnf
theorem mt_some{a b c d:P2}(hab:a≠b)(hcd:c≠d):(mtQ a b c d).isSome=mtB a b c d:=by
 unfold mtB
 rw [decide_eq_false hab,decide_eq_false hcd];rfl
def fpmSt(a b:List P2)(i:Nat):St:=⟨fr 42 [(5,.d (.l (eL (cyc a)))),(6,.d (.l (eL (cyc b)))),(7,.d (i64 i))], []⟩
def fpmSt2(a b:List P2)(i k:Nat):St:=⟨fr 42 [(5,.d (.l (eL (cyc a)))),(6,.d (.l (eL (cyc b)))),(7,.d (i64 i)),(8,.d (i64 k))], []⟩
def mtE(a b:List P2)(i k:Nat):Bool:=mtB (ed a i).1 (ed a i).2 (ed b k).1 (ed b k).2
theorem mtR_t{a b:List P2}{i k:Nat}(hi:i<a.length)(hk:k<b.length)(h:mtE a b i k=true):mtR a b=true:=by
 unfold mtR
 exact List.any_eq_true.2 ⟨_,ed_mem hi,List.any_eq_true.2 ⟨_,ed_mem hk,h⟩⟩
theorem mtR_f{a b:List P2}(h: ∀i k,i<a.length→k<b.length→mtE a b i k=false):mtR a b=false:=by
 unfold mtR
 rw [List.any_eq_false];intro e he
 obtain ⟨i,hi,rfl⟩:=mem_ed he
 rw [Bool.not_eq_true,List.any_eq_false];intro f hf
 obtain ⟨k,hk,rfl⟩:=mem_ed hf
 have:=h i k hi hk
 unfold mtE at this
 rw [this];simp
theorem fmeets_c{a b:List P2}{n:Nat}(ra:RgOk a)(rb:RgOk b)(ha: ∀p∈a,BP n p)(hb: ∀p∈b,BP n p)(hn:n<1000000):Fun Tryz.prog 162 [.l (pL a),.l (pL b)] [.v (.bool (mtR a b))] :=by
 have la:=ra.len
 have lb:=rb.len
 have hla:(eL (cyc a)).length=a.length:=by simp [cyc_len]
 have hlb:(eL (cyc b)).length=b.length:=by simp [cyc_len]
 refine fun_of_go (fun t=>t==9) mixed tOk Tryz.func162 rfl rfl ?_
 conv=>whnf
 refine call_data rfl rfl (fedges_c a (by omega)) ?_
 conv=>whnf
 refine call_data rfl rfl (fedges_c b (by omega)) ?_
 conv=>whnf
 refine loop_intro (fun t=>t==9) (fun i:Nat=>fpmSt a b i) (fun i=>i≤a.length∧ ∀j k,j<i→k<b.length→mtE a b j k=false) (fun i=>a.length-i) 0 mixed tOk ⟨by omega,fun j k hj=>by omega⟩ ?_ ?_
 ·refine weak_r ?_ ?_<;>repeat' (first|exact trivial|exact rfl|apply And.intro)
 ·rintro i ⟨hi,hno⟩
  conv=>whnf
  refine cond_d (fun hlt=> ?_) (fun hge=> ?_)
  ·have hlt':i<a.length:=by omega
   conv=>whnf
   refine loop_intro (fun t=>t==9) (fun k:Nat=>fpmSt2 a b i k) (fun k=>k≤b.length∧ ∀j,j<k→mtE a b i j=false) (fun k=>b.length-k) 0 mixed tOk ⟨by omega,fun j hj=>by omega⟩ ?_ ?_
   ·refine weak_r ?_ ?_<;>repeat' (first|exact trivial|exact rfl|apply And.intro)
   ·rintro k ⟨hk,hnok⟩
    conv=>whnf
    refine cond_d (fun hlt2=> ?_) (fun hge2=> ?_)
    ·have hlt2':k<b.length:=by omega
     have e1:=ed_bp ha (show 0<a.length by omega) i
     have e2:=ed_bp hb (show 0<b.length by omega) k
     have n1:(ed a i).1≠(ed a i).2:=ra.ne i
     have n2:(ed b k).1≠(ed b k).2:=rb.ne k
     have hm:=fsmeet_c e1.1 e1.2 e2.1 e2.2 n1 n2 hn
     have hs:=mt_some n1 n2
     have hE:mtE a b i k=mtB (ed a i).1 (ed a i).2 (ed b k).1 (ed b k).2:=rfl
     rw [hs, ←hE] at hm
     conv=>whnf
     refine idx_intro (sD (ed a i).1 (ed a i).2) (cyc_at hlt') (by omega) (eL_uni _) ?_
     conv=>whnf
     refine idx_intro (sD (ed b k).1 (ed b k).2) (cyc_at hlt2') (by omega) (eL_uni _) ?_
     conv=>whnf
     refine callv_data hm ?_
     conv=>whnf
     refine safe_intro (by kernel_rfl) ?_
     conv=>whnf
     refine cond_intro (fun c3=> ?_) (fun c3=> ?_)
     ·rw [mtR_t hlt' hlt2' c3]
      conv=>whnf
      refine ⟨?_,trivial⟩
      conv=>whnf
     ·conv=>whnf
      refine sd_d (by omega) ?_
      conv=>whnf
      refine ⟨k+1,⟨by omega,fun j hj=> ?_⟩,by omega, ?_⟩
      ·by_cases hjk:j=k
       ·subst hjk;exact c3
       ·exact hnok j (by omega)
      unfold fpmSt2;rw [Int.natCast_succ]
      refine weak_dead 0 rfl ?_
      refine weak_r ?_ ?_<;>repeat' (first|exact trivial|exact rfl|apply And.intro)
    ·conv=>whnf
     refine sd_d (by omega) ?_
     conv=>whnf
     refine ⟨i+1,⟨by omega,fun j k' hj hk'=> ?_⟩,by omega, ?_⟩
     ·by_cases hji:j=i
      ·subst hji;exact hnok k' (by omega)
      ·exact hno j k' (by omega) hk'
     unfold fpmSt;rw [Int.natCast_succ]
     refine weak_r ?_ ?_<;>repeat' (first|exact trivial|exact rfl|apply And.intro)
  ·have:i=a.length:=by omega
   subst this
   rw [mtR_f (fun i k hi hk=>hno i k hi hk)]
   conv=>whnf
   refine ⟨?_,trivial⟩
   conv=>whnf
theorem wi_in{a b:List P2}(hb:RgOk b):wiB a b=decide (inV b (ix a 0)=1):=by
 have he:inE b=0:=by unfold inE;rw [if_neg (fun h=>h (rgE_zero.2 hb))]
 unfold wiB
 rw [he,Bool.eq_iff_iff,Bool.and_eq_true,decide_eq_true_eq,decide_eq_true_eq,decide_eq_true_eq]
 rcases inV_rng b (ix a 0) with h|h|h<;>omega
theorem any_getD{α:Type}{l:List α}{f:α→Bool}{d:α}(h:l.any f=true): ∃k,k<l.length∧f (l.getD k d)=true:=by
 obtain ⟨x,hx,hf⟩:=List.any_eq_true.1 h
 obtain ⟨k,hk,rfl⟩:=List.getElem_of_mem hx
 exact ⟨k,hk,by rw [List.getD_eq_getElem?_getD,List.getElem?_eq_getElem hk];exact hf⟩
theorem any_getD_t{α:Type}{l:List α}{f:α→Bool}{d:α}{k:Nat}(hk:k<l.length)(h:f (l.getD k d)=true):l.any f=true:=by
 rw [List.getD_eq_getElem?_getD,List.getElem?_eq_getElem hk] at h
 exact List.any_eq_true.2 ⟨_,List.getElem_mem hk,h⟩
theorem any_getD_f{α:Type}{l:List α}{f:α→Bool}{d:α}(h: ∀k,k<l.length→f (l.getD k d)=false):l.any f=false:=by
 cases hb:l.any f with
 |false=>rfl
 |true=>
  obtain ⟨k,hk,hf⟩:=any_getD (d:=d) hb
  rw [h k hk] at hf;exact absurd hf (by decide)
theorem pre_at{hs:List (List (RD×RD))}{i n:Nat}(hi:i≤hs.length)(hpre: ∀h∈hs.take i,rgR h=0)(hb: ∀h∈hs,∀p∈h,BP n (vP p)∧SzP p){k:Nat}(hk:k<i):
  (hR hs)[((k:Nat):Int).toNat]? =some (.l (pL (((hs.take i).map (List.map vP)).getD k [])))∧RgOk (((hs.take i).map (List.map vP)).getD k [])∧ ∀p∈((hs.take i).map (List.map vP)).getD k [],BP n p:=by
 have hkl:k<hs.length:=by omega
 have e:((hs.take i).map (List.map vP)).getD k [] =hs[k].map vP:=by
  rw [List.getD_eq_getElem?_getD,List.getElem?_map,List.getElem?_take_of_lt hk,List.getElem?_eq_getElem hkl];rfl
 have hm:hs[k] ∈hs.take i:=by
  rw [List.mem_take_iff_getElem]
  exact ⟨k,by omega,rfl⟩
 have hz:=rgR_zero (hpre _ hm)
 rw [e]
 refine ⟨?_,rgE_zero.1 hz.2.1,fun p hp=> ?_⟩
 ·rw [hR_get hkl,rL_can hz.1]
 ·obtain ⟨q,hq,rfl⟩:=List.mem_map.1 hp
  exact (hb _ (List.getElem_mem hkl) q hq).1
def fpcSt(o:List P2)(hs:List (List (RD×RD)))(i:Nat):St:=⟨fr 101 [(1,.d (.p 0 [.l (pL o),.l (hR hs)])),(4,.d (i64 i))], []⟩
def fpcSt1(o:List P2)(hs:List (List (RD×RD)))(h:List P2)(i k:Nat):St:=⟨fr 101 [(1,.d (.p 0 [.l (pL o),.l (hR hs)])),(4,.d (i64 i)),(5,.d (.l (pL h))),(7,.d (i64 k))], []⟩
def fpcSt2(o:List P2)(hs:List (List (RD×RD)))(h:List P2)(i k:Nat):St:=⟨fr 101 [(1,.d (.p 0 [.l (pL o),.l (hR hs)])),(4,.d (i64 i)),(5,.d (.l (pL h))),(8,.d (i64 k))], []⟩
theorem fpcheck_c(o:List (RD×RD))(hs:List (List (RD×RD))){n:Nat}(hn:n<1000000)(hlo:o.length≤1000)(hlen:hs.length≤100000)
  (hob: ∀p∈o,BP n (vP p)∧SzP p) (hb: ∀h∈hs,∀p∈h,BP n (vP p)∧SzP p) (hlb: ∀h∈hs,h.length≤1000):
  Fun Tryz.prog 83 [pgR o hs] [i64 (pgE o hs)] :=by
 have hll:(hR hs).length=hs.length:=by simp
 refine fun_of_go (fun t=>false) mixed tOk Tryz.func83 rfl rfl ?_
 conv=>whnf
 refine call_data rfl rfl (frcheck_c o (fun p hp=>(hob p hp).2) (fun p hp=>(hob p hp).1) hn hlo) ?_
 conv=>whnf
 refine cond_ne (fun c1=> ?_) (fun c1=> ?_)
 ·have e:pgE o hs=rgR o:=by unfold pgE;rw [if_pos c1]
  rw [e]
  conv=>whnf
  exact ⟨rfl,trivial⟩
 conv=>whnf
 refine cond_d (fun c2=> ?_) (fun c2=> ?_)
 ·have e:pgE o hs=4:=by unfold pgE;rw [if_neg (fun hh=>hh c1),if_pos (by omega)]
  rw [e]
  conv=>whnf
  exact ⟨rfl,trivial⟩
 have e0:pgE o hs=hoL (o.map vP) [] hs:=by unfold pgE;rw [if_neg (fun hh=>hh c1),if_neg (by omega)]
 obtain ⟨o1,o2,o3,o4⟩:=rgR_zero c1
 have ro:=rgE_zero.1 o2
 have oq: ∀p∈o.map vP,BP n p:=fun p hp=>by obtain ⟨q,hq,rfl⟩:=List.mem_map.1 hp;exact (hob q hq).1
 rw [e0,show pgR o hs= .a [.l (pL (o.map vP)),.l (hR hs)] by unfold pgR;rw [rL_can o1]]
 generalize o.map vP=o' at*
 conv=>whnf
 refine loop_intro (fun t=>false) (fun i:Nat=>fpcSt o' hs i)
  (fun i=>i≤hs.length∧(∀h∈hs.take i,rgR h=0)∧hoL o' [] hs=hoL o' ((hs.take i).map (List.map vP)) (hs.drop i)) (fun i=>hs.length-i) 0 mixed tOk ⟨by omega,by simp,by simp⟩ ?_ ?_
 ·refine weak_r ?_ ?_<;>repeat' (first|exact trivial|exact rfl|apply And.intro)
 ·rintro i ⟨hi,hpre,heq⟩
  rw [heq]
  conv=>whnf
  refine cond_d (fun hlt=> ?_) (fun hge=> ?_)
  ·have hlt':i<hs.length:=by omega
   rw [List.drop_eq_getElem_cons hlt']
   have htk:hs.take (i+1)=hs.take i++ [hs[i]] :=List.take_succ_eq_append_getElem hlt'
   have hmem:hs[i] ∈hs:=List.getElem_mem _
   have hhb:=hb _ hmem
   have hhl:=hlb _ hmem
   have hget:=hR_get hlt'
   have hpk:=fun k (hk:k<i)=>pre_at hi hpre hb hk
   have plen:((hs.take i).map (List.map vP)).length=i:=by rw [List.length_map,List.length_take];omega
   have hst:rgR hs[i] =0→hoE o' ((hs.take i).map (List.map vP)) (hs[i].map vP)=0→hoL o' ((hs.take i).map (List.map vP)) (hs[i] ::hs.drop (i+1))=hoL o' ((hs.take (i+1)).map (List.map vP)) (hs.drop (i+1)):=fun h1 h2=>by
    rw [hoL,if_neg (fun hh=>hh h1),if_neg (fun hh=>hh h2),htk,List.map_append];rfl
   have hend1:rgR hs[i] ≠0→hoL o' ((hs.take i).map (List.map vP)) (hs[i] ::hs.drop (i+1))=rgR hs[i] :=fun h1=>by
    rw [hoL,if_pos h1]
   have hend2:rgR hs[i] =0→hoE o' ((hs.take i).map (List.map vP)) (hs[i].map vP)≠0→hoL o' ((hs.take i).map (List.map vP)) (hs[i] ::hs.drop (i+1))=hoE o' ((hs.take i).map (List.map vP)) (hs[i].map vP):=fun h1 h2=>by
    rw [hoL,if_neg (fun hh=>hh h1),if_pos h2]
   have hpre':rgR hs[i] =0→ ∀h∈hs.take (i+1),rgR h=0:=fun z1 h hh=>by
    rw [htk] at hh
    rcases List.mem_append.1 hh with hh|hh
    ·exact hpre h hh
    ·rw [List.mem_singleton.1 hh];exact z1
   have hSz: ∀p∈hs[i],SzP p:=fun p hp=>(hhb p hp).2
   have hBp: ∀p∈hs[i],BP n (vP p):=fun p hp=>(hhb p hp).1
   generalize hoL o' ((hs.take i).map (List.map vP)) (hs[i] ::hs.drop (i+1))=Z at*
   generalize (hs.take i).map (List.map vP)=pre at*
   generalize hs[i] =h at*
   conv=>whnf
   refine idx_intro (.l (rL h)) hget (by omega) (hR_uni _) ?_
   conv=>whnf
   refine call_data rfl rfl (frcheck_c h hSz hBp hn hhl) ?_
   conv=>whnf
   refine cond_ne (fun c3=> ?_) (fun c3=> ?_)
   ·rw [hend1 c3]
    conv=>whnf
    exact ⟨rfl,trivial⟩
   obtain ⟨k1,k2,k3,k4⟩:=rgR_zero c3
   have rh:=rgE_zero.1 k2
   have hq: ∀p∈h.map vP,BP n p:=fun p hp=>by obtain ⟨r,hr,rfl⟩:=List.mem_map.1 hp;exact hBp r hr
   have hvl:(h.map vP).length=h.length:=List.length_map ..
   replace hend2:=hend2 c3
   replace hst:=hst c3
   replace hpre':=hpre' c3
   rw [rL_can k1]
   generalize h.map vP=h' at*
   have h0:0<h'.length:=by omega
   have b0:=hq _ (ix_mem h0 (k:=0))
   conv=>whnf
   refine call_data rfl rfl (fmeets_c rh ro hq oq hn) ?_
   conv=>whnf
   refine cond_intro (fun c4=> ?_) (fun c4=> ?_)
   ·have e:hoE o' pre h'=13:=by unfold hoE;rw [if_pos (.inl c4)]
    rw [hend2 (by rw [e];decide),e]
    conv=>whnf
    exact ⟨rfl,trivial⟩
   conv=>whnf
   refine loop_intro (fun t=>false) (fun k:Nat=>fpcSt1 o' hs h' i k) (fun k=>k≤i∧ ∀j,j<k→mtR h' (pre.getD j [])=false) (fun k=>i-k) 0 mixed tOk ⟨by omega,fun j hj=>by omega⟩ ?_ ?_
   ·refine weak_r ?_ ?_<;>repeat' (first|exact trivial|exact rfl|apply And.intro)
   rintro k ⟨hk,hnok⟩
   conv=>whnf
   refine cond_d (fun hlt2=> ?_) (fun hge2=> ?_)
   ·have hk':k<i:=by omega
    obtain ⟨g1,g2,g3⟩:=hpk k hk'
    have e13:mtR h' (pre.getD k [])=true→hoE o' pre h'=13:=fun hh=>by
     unfold hoE;rw [if_pos (.inr (any_getD_t (by omega) hh))]
    have hstep:mtR h' (pre.getD k [])=false→ ∀j,j<k+1→mtR h' (pre.getD j [])=false:=fun hh j hj=>by
     by_cases hjk:j=k
     ·subst hjk;exact hh
     ·exact hnok j (by omega)
    generalize pre.getD k [] =x at*
    conv=>whnf
    refine idx_intro (.l (pL x)) g1 (by omega) (hR_uni _) ?_
    conv=>whnf
    refine call_data rfl rfl (fmeets_c rh g2 hq g3 hn) ?_
    conv=>whnf
    refine cond_intro (fun c5=> ?_) (fun c5=> ?_)
    ·have e:=e13 c5
     rw [hend2 (by rw [e];decide),e]
     conv=>whnf
     exact ⟨rfl,trivial⟩
    ·conv=>whnf
     refine sd_d (by omega) ?_
     conv=>whnf
     refine ⟨k+1,⟨by omega,hstep c5⟩,by omega, ?_⟩
     unfold fpcSt1;rw [Int.natCast_succ]
     refine weak_r ?_ ?_<;>repeat' (first|exact trivial|exact rfl|apply And.intro)
   have a1:pre.any (fun x=>mtR h' x)=false:=any_getD_f (d:= []) (fun j hj=>hnok j (by omega))
   have n1: ¬(mtR h' o'=true∨pre.any (fun x=>mtR h' x)=true):=by rw [c4,a1];decide
   conv=>whnf
   refine idx_intro (pD (ix h' 0)) (ix_at h0) (by omega) (pL_uni _) ?_
   conv=>whnf
   refine callv_data (fwithin_c ro oq b0 hn) ?_
   conv=>whnf
   refine safe_intro (by kernel_rfl) ?_
   conv=>whnf
   rw [←wi_in ro]
   refine cond_nb (fun c5=> ?_) (fun c5=> ?_)
   ·have e:hoE o' pre h'=14:=by unfold hoE;rw [if_neg n1,if_pos c5]
    rw [hend2 (by rw [e];decide),e]
    conv=>whnf
    exact ⟨rfl,trivial⟩
   have n2: ¬wiB h' o'=false:=by rw [c5];decide
   conv=>whnf
   refine loop_intro (fun t=>false) (fun k:Nat=>fpcSt2 o' hs h' i k) (fun k=>k≤i∧ ∀j,j<k→(wiB h' (pre.getD j [])||wiB (pre.getD j []) h')=false) (fun k=>i-k) 0 mixed tOk ⟨by omega,fun j hj=>by omega⟩ ?_ ?_
   ·refine weak_r ?_ ?_<;>repeat' (first|exact trivial|exact rfl|apply And.intro)
   rintro m ⟨hm,hnom⟩
   conv=>whnf
   refine cond_d (fun hlt3=> ?_) (fun hge3=> ?_)
   ·have hm':m<i:=by omega
    obtain ⟨g1,g2,g3⟩:=hpk m hm'
    have e22:(wiB h' (pre.getD m [])||wiB (pre.getD m []) h')=true→hoE o' pre h'=22:=fun hh=>by
     unfold hoE;rw [if_neg n1,if_neg n2,if_pos (any_getD_t (f:=fun x=>wiB h' x||wiB x h') (by omega) hh)]
    have hstep:(wiB h' (pre.getD m [])||wiB (pre.getD m []) h')=false→ ∀j,j<m+1→(wiB h' (pre.getD j [])||wiB (pre.getD j []) h')=false:=fun hh j hj=>by
     by_cases hjk:j=m
     ·subst hjk;exact hh
     ·exact hnom j (by omega)
    generalize pre.getD m [] =x at*
    have x0:0<x.length:=by have:=g2.len;omega
    have bx:=g3 _ (ix_mem x0 (k:=0))
    conv=>whnf
    refine idx_intro (.l (pL x)) g1 (by omega) (hR_uni _) ?_
    conv=>whnf
    refine idx_intro (pD (ix h' 0)) (ix_at h0) (by omega) (pL_uni _) ?_
    conv=>whnf
    refine callv_data (fwithin_c g2 g3 b0 hn) ?_
    conv=>whnf
    rw [←wi_in g2]
    refine cond_intro (fun c6=> ?_) (fun c6=> ?_)
    ·have e:=e22 (by rw [c6];rfl)
     rw [hend2 (by rw [e];decide),e]
     conv=>whnf
     refine safe_intro (by kernel_rfl) ?_
     conv=>whnf
     exact ⟨rfl,trivial⟩
    ·rw [c6] at e22 hstep
     conv=>whnf
     refine idx_intro (.l (pL x)) g1 (by omega) (hR_uni _) ?_
     conv=>whnf
     refine idx_intro (pD (ix x 0)) (ix_at x0) (by omega) (pL_uni _) ?_
     conv=>whnf
     refine callv_data (fwithin_c rh hq bx hn) ?_
     conv=>whnf
     refine safe_intro (by kernel_rfl) ?_
     conv=>whnf
     rw [←wi_in rh]
     refine cond_intro (fun c7=> ?_) (fun c7=> ?_)
     ·have e:=e22 (by rw [c7];rfl)
      rw [hend2 (by rw [e];decide),e]
      conv=>whnf
      exact ⟨rfl,trivial⟩
     ·conv=>whnf
      refine sd_d (by omega) ?_
      conv=>whnf
      refine ⟨m+1,⟨by omega,hstep (by rw [c7];rfl)⟩,by omega, ?_⟩
      unfold fpcSt2;rw [Int.natCast_succ]
      refine weak_r ?_ ?_<;>repeat' (first|exact trivial|exact rfl|apply And.intro)
   have a2:pre.any (fun x=>wiB h' x||wiB x h')=false:=any_getD_f (d:= []) (fun j hj=>hnom j (by omega))
   have n3: ¬pre.any (fun x=>wiB h' x||wiB x h')=true:=by rw [a2];decide
   have e0:hoE o' pre h'=if 0<pre.length∧0≤cmP (ix (pre.getD (pre.length-1) []) 0) (ix h' 0) then 8 else 0:=by
    unfold hoE;rw [if_neg n1,if_neg n2,if_neg n3]
   conv=>whnf
   refine cond_d (fun c6=> ?_) (fun c6=> ?_)
   ·obtain ⟨g1,g2,g3⟩:=hpk (i-1) (by omega)
    have gx:(hR hs)[((i:Int)-1).toNat]? =some (.l (pL (pre.getD (i-1) []))):=by
     have e:((i:Int)-1)=((i-1:Nat):Int):=by omega
     rw [e];exact g1
    rw [plen] at e0
    generalize pre.getD (i-1) [] =x at*
    have x0:0<x.length:=by have:=g2.len;omega
    have bx:=g3 _ (ix_mem x0 (k:=0))
    conv=>whnf
    refine sd_d (by omega) ?_
    conv=>whnf
    refine idx_intro (.l (pL x)) gx (by omega) (hR_uni _) ?_
    conv=>whnf
    refine idx_intro (pD (ix x 0)) (ix_at x0) (by omega) (pL_uni _) ?_
    conv=>whnf
    refine idx_intro (pD (ix h' 0)) (ix_at h0) (by omega) (pL_uni _) ?_
    conv=>whnf
    refine callv_data (fcmp2_c (bx.q (by omega)) (b0.q (by omega))) ?_
    conv=>whnf
    refine safe_intro (by kernel_rfl) ?_
    conv=>whnf
    refine cond_d (fun c7=> ?_) (fun c7=> ?_)
    ·rw [if_pos ⟨by omega,c7⟩] at e0
     rw [hend2 (by rw [e0];decide),e0]
     conv=>whnf
     exact ⟨rfl,trivial⟩
    ·rw [if_neg (fun hh=>c7 hh.2)] at e0
     rw [hst e0]
     conv=>whnf
     refine sd_d (by omega) ?_
     conv=>whnf
     refine ⟨i+1,⟨by omega,hpre',rfl⟩,by omega, ?_⟩
     unfold fpcSt;rw [Int.natCast_succ]
     refine weak_r ?_ ?_<;>repeat' (first|exact trivial|exact rfl|apply And.intro)
   ·rw [if_neg (fun hh=>c6 (by omega))] at e0
    rw [hst e0]
    conv=>whnf
    refine safe_intro (by kernel_rfl) ?_
    conv=>whnf
    refine sd_d (by omega) ?_
    conv=>whnf
    refine ⟨i+1,⟨by omega,hpre',rfl⟩,by omega, ?_⟩
    unfold fpcSt;rw [Int.natCast_succ]
    refine weak_r ?_ ?_<;>repeat' (first|exact trivial|exact rfl|apply And.intro)
  ·have:i=hs.length:=by omega
   subst this
   rw [List.drop_length,hoL]
   conv=>whnf
   exact ⟨rfl,trivial⟩
def fe1St(o:List P2)(hs:List (List P2))(i:Nat):St:=
 ⟨fr 26 [(1,.d (.p 0 [.l (pL o),.l (hQ hs)])),(3,.own 1 0),(4,.d (i64 i))], [.dead,.row 0 46 12 160 (eL (cyc o++(hs.take i).flatMap cyc))]⟩
theorem fedges1_c{o:List P2}{hs:List (List P2)}(hlo:o.length≤100)(hh: ∀h∈hs,h.length≤100)(hlh:hs.length≤8):
  Fun Tryz.prog 196 [.a [.l (pL o),.l (hQ hs)]] [.l (eL (cyc o++hs.flatMap cyc))] :=by
 have hll:(hQ hs).length=hs.length:=by simp
 refine fun_of_go (fun t=>t==5) mixed tOk Tryz.func196 rfl rfl ?_
 conv=>whnf
 refine call_data rfl rfl (fedges_c o (by omega)) ?_
 conv=>whnf
 refine sd_app (by intro x hx;simp at hx) (eL_uni _) (by simp only [maxLen,List.length_nil,List.length_map,cyc_len];omega) ?_
 conv=>whnf
 refine loop_intro (fun t=>t==5) (fun i:Nat=>fe1St o hs i) (fun i=>i≤hs.length) (fun i=>hs.length-i) 0 mixed tOk (by omega) ?_ ?_
 ·unfold fe1St
  rw [show (cyc o++(hs.take 0).flatMap cyc)=cyc o by simp]
  refine weak_dead 0 rfl ?_
  refine weak_r ?_ ?_<;>repeat' (first|exact trivial|exact rfl|apply And.intro)
 ·intro i hi
  conv=>whnf
  refine cond_d (fun hlt=> ?_) (fun hge=> ?_)
  ·have hlt':i<hs.length:=by omega
   have hm:=hh _ (List.getElem_mem hlt')
   have hst:eL (cyc o++(hs.take (i+1)).flatMap cyc)=eL (cyc o++(hs.take i).flatMap cyc)++eL (cyc hs[i]):=by
    rw [List.take_succ_eq_append_getElem hlt',List.flatMap_append, ←List.append_assoc]
    unfold eL
    rw [List.map_append]
    simp
   have hlk:(eL (cyc o++(hs.take i).flatMap cyc)).length≤900:=by
    unfold eL
    rw [List.length_map]
    exact e1_len hlo (fun h hx=>hh h (List.mem_of_mem_take hx)) (by simp;omega)
   have hl2:(eL (cyc hs[i])).length≤100:=by
    unfold eL
    rw [List.length_map,cyc_len]
    omega
   conv=>whnf
   refine idx_intro (.l (pL hs[i])) (hQ_get hlt') (by omega) (hQ_uni _) ?_
   conv=>whnf
   refine call_data rfl rfl (fedges_c hs[i] (by omega)) ?_
   conv=>whnf
   refine sd_app (eL_uni _) (eL_uni _) (by simp only [maxLen];omega) ?_
   conv=>whnf
   refine sd_d (by omega) ?_
   conv=>whnf
   refine ⟨i+1,by omega,by omega, ?_⟩
   unfold fe1St
   rw [hst,Int.natCast_succ]
   refine weak_r ?_ ?_<;>repeat' (first|exact trivial|exact rfl|apply And.intro)
  ·have:i=hs.length:=by omega
   subst this
   rw [show hs.take hs.length=hs from List.take_length]
   conv=>whnf
   refine ⟨?_,trivial⟩
   conv=>whnf
theorem fEdges1_c{o:List P2}{hs:List (List P2)}(hlo:o.length≤100)(hh: ∀h∈hs,h.length≤100)(hlh:hs.length≤8)(hck:Fun Tryz.prog 83 [.a [.l (pL o),.l (hQ hs)]] [i64 0]):
  Fun Tryz.prog 107 [.a [.l (pL o),.l (hQ hs)]] [.l (eL (cyc o++hs.flatMap cyc)),i64 0] :=by
 refine fun_of_go (fun t=>false) mixed tOk Tryz.func107 rfl rfl ?_
 conv=>whnf
 refine call_data rfl rfl hck ?_
 conv=>whnf
 refine cond_bf (by decide) ?_
 conv=>whnf
 refine call_data rfl rfl (fedges1_c hlo hh hlh) ?_
 conv=>whnf
 refine ⟨?_, ?_,trivial⟩
 ·conv=>whnf
 ·conv=>whnf
theorem fEdges1_x{o:List (RD×RD)}{hs:List (List (RD×RD))}{e:Int}(he:e≠0)(hck:Fun Tryz.prog 83 [pgR o hs] [i64 e]):
  Fun Tryz.prog 107 [pgR o hs] [.l [],i64 1] :=by
 refine fun_of_go (fun t=>false) mixed tOk Tryz.func107 rfl rfl ?_
 conv=>whnf
 refine call_data rfl rfl hck ?_
 conv=>whnf
 refine cond_ne (fun c=> ?_) (fun c=>absurd c he)
 conv=>whnf
 refine ⟨?_, ?_,trivial⟩
 ·conv=>whnf
 ·conv=>whnf
theorem Edges1_x{o:List (RD×RD)}{hs:List (List (RD×RD))}{e:Int}(he:e≠0)(hck:Fun Tryz.prog 48 [pgR o hs] [i64 e]):
  Fun Tryz.prog 103 [pgR o hs] [.l [],i64 1] :=by
 refine fun_of_go (fun t=>false) mixed tOk Tryz.func103 rfl rfl ?_
 conv=>whnf
 refine call_data rfl rfl hck ?_
 conv=>whnf
 refine cond_ne (fun c=> ?_) (fun c=>absurd c he)
 conv=>whnf
 refine ⟨?_, ?_,trivial⟩
 ·conv=>whnf
 ·conv=>whnf
theorem fcheckq_c{p:Rat}(hp:Q p):Fun Tryz.prog 108 [ratD p] [i64 0] :=by
 have h:=rcheck_r (canon p) hp.sz
 rw [←ratD_eq] at h
 have e:okN (canon p)=0:=by unfold okN;rw [val_canon,if_pos rfl]
 rwa [e] at h
theorem crx_ref{y:Rat}{a b:P2}(h:a.2≠b.2):a.1+(b.1-a.1)*((y-a.2)/(b.2-a.2))=crx y (a,b):=by
 have e:(y-a.2)/(b.2-a.2)=(a.2-y)/((a.2-y)-(b.2-y)):=by
  have h1:b.2-a.2≠0:=by grind
  have h2:(a.2-y)-(b.2-y)≠0:=by grind
  grind
 rw [e];rfl
noncomputable def flS(y:Rat)(E:List (P2×P2))(i:Nat)(zs:List Rat):St:=
 ⟨fr 135 [(3,.d (.p 0 (ratD y).cells)),(6,.d (.l (eL E))),(8,.own 1 0),(9,.d (i64 i))], [.dead,.row 0 27 3 40 (qL zs)]⟩
noncomputable def flS2(y:Rat)(E:List (P2×P2))(i k:Nat)(zs:List Rat):St:=
 ⟨fr 135 [(3,.d (.p 0 (ratD y).cells)),(6,.d (.l (eL E))),(8,.own 1 0),(9,.d (i64 i)),(15,.d (i64 k))], [.dead,.row 0 27 3 40 (qL zs)]⟩
def flS3(ys:List Rat)(j:Nat):St:=
 ⟨fr 135 [(8,.own 1 0),(16,.own 2 0),(17,.d (i64 ((2*j:Nat):Int)))], [.dead,.row 0 27 3 40 (qL ys),.row 0 147 6 80 (pL (prA ys j))]⟩
theorem ini_start{zs:List Rat}(x:Rat)(h:zs.Pairwise (· ≤ ·)):InI (zs++ [x]) zs.length zs.length:=by
 constructor
 ·intro a b ha hb hab hbi h1 h2
  have hb':b<zs.length:=by omega
  rw [List.getElem_append_left (by omega),List.getElem_append_left hb']
  exact List.pairwise_iff_getElem.1 h a b (by omega) hb' hab
 ·intro b hj hb h1 h2
  omega
theorem flines_c{o:List P2}{hs:List (List P2)}{y:Rat}{n:Nat}(ho: ∀p∈o,BP n p)(hlo:o.length≤100)(hh: ∀h∈hs,(∀p∈h,BP n p)∧h.length≤100)(hn:n<10000)(hy:Bd n y)(hlh:hs.length≤8)(hck:Fun Tryz.prog 83 [.a [.l (pL o),.l (hQ hs)]] [i64 0])
  {E:List (P2×P2)} (hE:E=cyc o++hs.flatMap cyc) (hlE:E.length≤12) {M:Nat} (hM:(crL y E).length=2*M) {ys:List Rat} (hpp:ys.Perm (crL y E)) (hss:ys.Pairwise (· ≤ ·)):
  Fun Tryz.prog 42 [.a [.l (pL o),.l (hQ hs)],ratD y] [.l (pL (nmL (prL ys M) (prL ys M).length)),i64 0] :=by
 have qy:Q y:= .mk hy (by omega)
 have hed:=fEdges1_c hlo (fun h hx=>(hh h hx).2) hlh hck
 rw [←hE] at hed
 have hbE: ∀e∈E,BP n e.1∧BP n e.2:=by
  have hcy: ∀l:List P2,(∀p∈l,BP n p)→ ∀e∈cyc l,BP n e.1∧BP n e.2:=fun l hl e he=>⟨hl _ (cyc_mem he).1,hl _ (cyc_mem he).2⟩
  intro e he
  rw [hE] at he
  rcases List.mem_append.1 he with h|h
  ·exact hcy o ho e h
  ·obtain ⟨l,h1,h2⟩:=List.mem_flatMap.1 h
   exact hcy l (hh l h1).1 e h2
 have hbx: ∀x∈crL y E,Bd (10*n+10) x:=by
  intro x hx
  unfold crL at hx
  obtain ⟨e,he,rfl⟩:=List.mem_map.1 hx
  have hbe:=hbE e (List.mem_filter.1 he).1
  have d1:=hbe.1.2.sub hy
  have d2:=hbe.2.2.sub hy
  exact (hbe.1.1.add ((hbe.2.1.sub hbe.1.1).mul (d1.div (d1.sub d2)))).mono (by omega)
 have hel:(eL E).length=E.length:=by simp
 have hyl:ys.length=2*M:=by rw [←hM];exact hpp.length_eq
 have hbt: ∀i,∀x∈crL y (E.take i),Bd (10*n+10) x:=fun i x hx=>hbx x (by
  unfold crL at hx ⊢
  obtain ⟨e,he,rfl⟩:=List.mem_map.1 hx
  exact List.mem_map.2 ⟨e,List.mem_filter.2 ⟨List.mem_of_mem_take (List.mem_filter.1 he).1,(List.mem_filter.1 he).2⟩,rfl⟩)
 refine fun_of_go (fun t=>t==10||t==11||t==12||t==14) mixed tOk Tryz.func42 rfl rfl ?_
 conv=>whnf
 refine call_data rfl rfl hed ?_
 conv=>whnf
 refine cond_bf (by decide) ?_
 conv=>whnf
 refine call_data rfl rfl (fcheckq_c qy) ?_
 conv=>whnf
 refine cond_bf (by decide) ?_
 conv=>whnf
 refine loop_intro (fun t=>t==10||t==11||t==12||t==14) (fun p:Nat×List Rat=>flS y E p.1 p.2) (fun p=>p.1≤E.length∧p.2.Perm (crL y (E.take p.1))∧p.2.Pairwise (· ≤ ·)) (fun p=>E.length-p.1) (0, []) mixed tOk ⟨by simp,by simp [crL],by simp⟩ ?_ ?_
 ·unfold flS
  refine weak_dead 0 rfl ?_
  refine weak_r ?_ ?_<;>repeat' (first|exact trivial|exact rfl|apply And.intro)
 ·rintro ⟨i,zs⟩ ⟨hi,hpz,hsz⟩
  simp only at hi hpz hsz
  dsimp only
  have hzl:=hpz.length_eq
  have hcl:=crL_len y (E.take i)
  rw [List.length_take] at hcl
  have hzq: ∀x∈zs,Q x:=fun x hx=> .mk (hbt i x (hpz.mem_iff.1 hx)) (by omega)
  conv=>whnf
  refine cond_d (fun hlt=> ?_) (fun hge=> ?_)
  ·have hlt':i<E.length:=by omega
   have hbe:=hbE _ (List.getElem_mem hlt')
   have hsn:crL y (E.take (i+1))=crL y (E.take i)++(if crs y E[i] then [crx y E[i]] else []):=by rw [List.take_succ_eq_append_getElem hlt',crL_snoc]
   have hget:(eL E)[(i:Int).toNat]? =some (sD E[i].1 E[i].2):=by simp [hlt']
   generalize E[i] =e at*
   obtain ⟨a,b⟩:=e
   simp only at hbe hget
   have q1:Q a.2:= .mk hbe.1.2 (by omega)
   have q2:Q b.2:= .mk hbe.2.2 (by omega)
   have d1:=hy.sub hbe.1.2
   have d2:=hbe.2.2.sub hbe.1.2
   conv=>whnf
   refine idx_intro (sD a b) hget (by omega) (eL_uni _) ?_
   conv=>whnf
   refine idx_intro (sD a b) hget (by omega) (eL_uni _) ?_
   conv=>whnf
   refine safe_intro (by kernel_rfl) ?_
   conv=>whnf
   refine callv_data (fless_c qy q1) ?_
   conv=>whnf
   refine callv_data (fless_c qy q2) ?_
   conv=>whnf
   refine safe_intro (by kernel_rfl) ?_
   conv=>whnf
   refine cond_e (fun c1=> ?_) (fun c1=> ?_)
   ·have hcs:crs y (a,b)=false:=by unfold crs;simp only;rw [c1];simp
    rw [hcs] at hsn
    conv=>whnf
    refine sd_d (by omega) ?_
    conv=>whnf
    refine ⟨(i+1,zs),⟨by show i+1≤E.length;omega,by show zs.Perm (crL y (E.take (i+1)));rw [hsn];simpa using hpz,hsz⟩,by show E.length-(i+1)<E.length-i;omega, ?_⟩
    unfold flS
    simp only
    rw [Int.natCast_succ]
    refine weak_dead 2 rfl ?_
    refine weak_dead 3 rfl ?_
    refine weak_r ?_ ?_<;>repeat' (first|exact trivial|exact rfl|apply And.intro)
   ·have hcs:crs y (a,b)=true:=by unfold crs;simp only;simpa using c1
    rw [hcs] at hsn
    have hab:a.2≠b.2:=fun h=>c1 (by rw [h])
    have hne:b.2-a.2≠0:=by grind
    have d3:=d1.div d2
    have w1:=hbe.2.1.sub hbe.1.1
    have w2:=hbe.2.2.sub hbe.1.2
    have hx:=crx_ref (y:=y) hab
    have hat:=fat_c (.mk hbe.1.1 (by omega)) (.mk hbe.1.2 (by omega)) (.mk hbe.2.1 (by omega)) (.mk hbe.2.2 (by omega)) (.mk d3 (by omega)) (.mk w1 (by omega)) (.mk w2 (by omega)) (.mk (w1.mul d3) (by omega)) (.mk (w2.mul d3) (by omega))
    rw [hx] at hat
    have hbx':Bd (10*n+10) (crx y (a,b)):=by
     refine hbt (i+1) _ ?_
     rw [hsn];simp
    generalize crx y (a,b)=x at*
    conv=>whnf
    refine callv_data (rsub_q qy q1) ?_
    conv=>whnf
    refine callv_data (rsub_q q2 q1) ?_
    conv=>whnf
    refine callv_data (rquo_q (.mk d1 (by omega)) (.mk d2 (by omega)) hne) ?_
    conv=>whnf
    refine safe_intro (by kernel_rfl) ?_
    conv=>whnf
    refine call_data rfl rfl hat ?_
    conv=>whnf
    refine sd_app (qL_uni _) (by intro x hx;rcases List.mem_singleton.1 hx with rfl;rfl) (by simp only [maxLen,List.length_cons,List.length_nil,List.length_map];omega) ?_
    conv=>whnf
    have hst:qL (zs++ [x])=qL zs++ [ratD x] :=List.map_append ..
    refine loop_intro (fun t=>t==10||t==11||t==12||t==14) (fun p:Nat×List Rat=>flS2 y E i p.1 p.2) (fun p=>p.1≤zs.length∧p.2.Perm (zs++ [x])∧InI p.2 zs.length p.1) (fun p=>p.1) (zs.length,zs++ [x]) mixed tOk ⟨Nat.le_refl _,List.Perm.refl _,ini_start x hsz⟩ ?_ ?_
    ·unfold flS2
     simp only
     rw [hst,show (zs.length:Int)=(((qL zs).length:Nat):Int) by simp]
     refine weak_dead 2 rfl ?_
     refine weak_dead 3 rfl ?_
     refine weak_dead 4 rfl ?_
     refine weak_dead 5 rfl ?_
     refine weak_r ?_ ?_<;>repeat' (first|exact trivial|exact rfl|apply And.intro)
    ·rintro ⟨k,us⟩ ⟨hk,hpu,hin⟩
     simp only at hk hpu hin
     dsimp only
     have hul:us.length=zs.length+1:=by have:=hpu.length_eq;simpa using this
     have huq: ∀x∈us,Q x:=fun z hz=>by
      rcases List.mem_append.1 (hpu.mem_iff.1 hz) with h|h
      ·exact hzq z h
      ·rw [List.mem_singleton.1 h];exact .mk hbx' (by omega)
     have hnext:SoN us (zs.length+1)→us.Perm (crL y (E.take (i+1)))∧us.Pairwise (· ≤ ·):=fun hso=>by
      refine ⟨?_,List.pairwise_iff_getElem.2 fun s t hs ht hst=>hso s t hs ht hst (by omega)⟩
      rw [hsn]
      exact hpu.trans (List.Perm.append_right _ hpz)
     conv=>whnf
     refine cond_d (fun c2=> ?_) (fun c2=> ?_)
     ·have c2':0<k:=by omega
      have hkl:k<us.length:=by omega
      have hk0:k-1<us.length:=by omega
      have qk:=huq _ (List.getElem_mem hkl)
      have qk0:=huq _ (List.getElem_mem hk0)
      have e3:((k:Int)-1).toNat=k-1:=by omega
      conv=>whnf
      refine sd_du (by rw [List.length_map];omega) (qL_uni _) ?_
      conv=>whnf
      refine rld_intro (i:=k) (r:=0) _ _ (qL_get hkl) (by omega) (by omega) (qL_uni _) rfl ?_
      conv=>whnf
      refine sd_d (by omega) ?_
      conv=>whnf
      refine sd_du (by rw [List.length_map];omega) (qL_uni _) ?_
      conv=>whnf
      refine rld_intro (i:=k-1) (r:=0) _ _ (by have:=qL_get hk0;exact this) (by omega) (by omega) (qL_uni _) rfl ?_
      conv=>whnf
      refine callv_data (fless_c qk qk0) ?_
      conv=>whnf
      refine safe_intro (by kernel_rfl) ?_
      conv=>whnf
      refine cond_intro (fun c3=> ?_) (fun c3=> ?_)
      ·have c3':us[k] <us[k-1] :=of_decide_eq_true c3
       conv=>whnf
       refine sd_d (by omega) ?_
       conv=>whnf
       refine sd_d (by omega) ?_
       conv=>whnf
       refine sd_du (by rw [List.length_map];omega) (qL_uni _) ?_
       conv=>whnf
       refine rld_intro (i:=k-1) (r:=0) _ _ (by have:=qL_get hk0;exact this) (by omega) (by omega) (qL_uni _) rfl ?_
       conv=>whnf
       refine sd_du (by rw [List.length_map];omega) (qL_uni _) ?_
       conv=>whnf
       refine rld_intro (i:=k) (r:=0) _ _ (qL_get hkl) (by omega) (by omega) (qL_uni _) rfl ?_
       conv=>whnf
       refine sd_du (by rw [List.length_map];omega) (qL_uni _) ?_
       conv=>whnf
       refine rst_q (i:=k) us[k-1] hkl (by omega) ?_
       conv=>whnf
       refine sd_du (by rw [List.length_map,List.length_set];omega) (qL_uni _) ?_
       conv=>whnf
       refine rst_q (i:=k-1) us[k] (by rw [List.length_set];omega) (by omega) ?_
       conv=>whnf
       refine safe_intro (by kernel_rfl) ?_
       conv=>whnf
       refine sd_d (by omega) ?_
       conv=>whnf
       refine ⟨(k-1,swP us k hkl hk0),⟨by show k-1≤zs.length;omega,(List.set_set_perm hkl hk0).trans hpu,hin.step c2' hk hkl hk0 c3'⟩,by show k-1<k;omega, ?_⟩
       unfold flS2
       simp only
       rw [show ((k:Int)-1)=((k-1:Nat):Int) by omega]
       refine weak_r ?_ ?_<;>repeat' (first|exact trivial|exact rfl|apply And.intro)
      ·have c3':us[k-1] ≤us[k] :=by
        have:=of_decide_eq_false c3
        grind
       have hd:=hin.done hk hkl (.inr ⟨hk0,c3'⟩)
       have hnx:=hnext hd
       conv=>whnf
       refine sd_d (by omega) ?_
       conv=>whnf
       refine ⟨(i+1,us),⟨by show i+1≤E.length;omega,hnx.1,hnx.2⟩,by show E.length-(i+1)<E.length-i;omega, ?_⟩
       unfold flS
       simp only
       rw [Int.natCast_succ]
       refine weak_r ?_ ?_<;>repeat' (first|exact trivial|exact rfl|apply And.intro)
     ·have hd:=hin.done hk (by omega) (.inl (by omega))
      conv=>whnf
      refine safe_intro (by kernel_rfl) ?_
      conv=>whnf
      have hnx:=hnext hd
      conv=>whnf
      refine sd_d (by omega) ?_
      conv=>whnf
      refine ⟨(i+1,us),⟨by show i+1≤E.length;omega,hnx.1,hnx.2⟩,by show E.length-(i+1)<E.length-i;omega, ?_⟩
      unfold flS
      simp only
      rw [Int.natCast_succ]
      refine weak_r ?_ ?_<;>repeat' (first|exact trivial|exact rfl|apply And.intro)
  ·have hiE:i=E.length:=by omega
   subst hiE
   rw [List.take_length] at hpz
   have hys:zs=ys:=so_uniq hsz hss (hpz.trans hpp.symm)
   subst hys
   have hml:M≤6:=by have:=crL_len y E;omega
   have hyq:(qL zs).length=2*M:=by rw [List.length_map];exact hyl
   conv=>whnf
   refine loop_intro (fun t=>t==10||t==11||t==12||t==14) (fun j:Nat=>flS3 zs j) (fun j=>j≤M) (fun j=>M-j) 0 mixed tOk (by omega) ?_ ?_
   ·unfold flS3
    refine weak_r ?_ ?_<;>repeat' (first|exact trivial|exact rfl|apply And.intro)
   ·intro j hj
    conv=>whnf
    refine sd_d (by omega) ?_
    conv=>whnf
    refine cond_d (fun hlt=> ?_) (fun hge2=> ?_)
    ·have hjM:j<M:=by omega
     have h0:2*j<zs.length:=by omega
     have h1:2*j+1<zs.length:=by omega
     have hpr:=prA_succ zs j
     have hg0:zs.getD (2*j) 0=zs[2*j] :=by rw [List.getD_eq_getElem?_getD,List.getElem?_eq_getElem h0];rfl
     have hg1:zs.getD (2*j+1) 0=zs[2*j+1] :=by rw [List.getD_eq_getElem?_getD,List.getElem?_eq_getElem h1];rfl
     rw [hg0,hg1] at hpr
     have hst:pL (prA zs (j+1))=pL (prA zs j)++ [pD (zs[2*j],zs[2*j+1])] :=by rw [hpr];exact List.map_append ..
     have hpl:(pL (prA zs j)).length=j:=by rw [List.length_map,prA_len]
     conv=>whnf
     refine sd_du (by omega) (qL_uni _) ?_
     conv=>whnf
     refine rld_intro (i:=2*j) (r:=0) _ _ (qL_get h0) (by omega) (by omega) (qL_uni _) rfl ?_
     conv=>whnf
     refine sd_d (by omega) ?_
     conv=>whnf
     refine sd_du (by omega) (qL_uni _) ?_
     conv=>whnf
     refine rld_intro (i:=2*j+1) (r:=0) _ _ (by have:=qL_get h1;exact this) (by omega) (by omega) (qL_uni _) rfl ?_
     conv=>whnf
     refine sd_app (pL_uni _) (by intro x hx;rcases List.mem_singleton.1 hx with rfl;rfl) (by simp only [maxLen,List.length_cons,List.length_nil];omega) ?_
     conv=>whnf
     refine safe_intro (by kernel_rfl) ?_
     conv=>whnf
     refine sd_d (by omega) ?_
     conv=>whnf
     refine ⟨j+1,by omega,by omega, ?_⟩
     unfold flS3
     rw [hst,show ((2*(j+1):Nat):Int)=((2*j:Nat):Int)+2 by omega]
     refine weak_r ?_ ?_<;>repeat' (first|exact trivial|exact rfl|apply And.intro)
    ·have hjE:j=M:=by omega
     subst hjE
     have hno:=fNormal_c (prA_ia (n:=10*n+10) hyl hml hss (fun x hx=>hbx x (hpz.mem_iff.1 hx)) (by omega))
     rw [prA_filter hyl hss] at hno
     conv=>whnf
     refine call_frz 2 (call_data rfl rfl hno ?_)
     conv=>whnf
     refine ⟨?_, ?_,trivial⟩
     ·conv=>whnf
     ·conv=>whnf
end Go.Nv
end
