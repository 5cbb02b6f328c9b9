import Derived.Test.YtlmmifgminkdkaaGreatNvD7
import Derived.Test.YtlmmifgminkdkaaGreatNvD2
import Derived.Test.YtlmmifgminkdkaaGreatNvC5
import Derived.Test.YtlmmifgminkdkaaGreatNvN6
import Derived.Test.YtlmmifgminkdkaaGreatNvD6
set_option linter.all false
set_option maxRecDepth 100000
section
namespace Go.Nv
open Go.Proofs Nw
theorem quQ{a b:P2}(h:a≠b):sgE a.1 a.2 b.1 b.2=0:=by
 unfold sgE;rw [if_neg (fun hh=>h (qlW.1 hh))]
theorem qsv{a b c d:P2}{n:Nat}(ha:BP n a)(hb:BP n b)(hc:BP n c)(hd:BP n d)(hab:a≠b)(hcd:c≠d)(hn:n<1000000):
  Fun Tryz.prog 204 [sD a b,sD c d] [mtV (mtQ a b c d),.v (.bool (mtQ a b c d).isSome),i64 0] :=by
 have qa:=ha.q (by omega)
 have qb:=hb.q (by omega)
 have qc:=hc.q (by omega)
 have qd:=hd.q (by omega)
 have k1:=qkK qa.1 qa.2 qb.1 qb.2
 have k2:=qkK qc.1 qc.2 qd.1 qd.2
 rw [quQ hab] at k1
 rw [quQ hcd] at k2
 have o1:Fun Tryz.prog 274 [sD a b] [sD (qaW a b).1 (qaW a b).2] :=qmW ha hb hn
 have o2:Fun Tryz.prog 274 [sD c d] [sD (qaW c d).1 (qaW c d).2] :=qmW hc hd hn
 have b1:=qiL (P:=BP n) ha hb
 have b2:=qiL (P:=BP n) hc hd
 rw [<-qyY hab hcd]
 unfold fmQ
 generalize (qaW a b).1=x at*
 generalize (qaW a b).2=y at*
 generalize (qaW c d).1=z at*
 generalize (qaW c d).2=w at*
 have qx:=b1.1.q (by omega)
 have qy:=b1.2.q (by omega)
 have qz:=b2.1.q (by omega)
 have qw:=b2.2.q (by omega)
 have du:=b1.2.su b1.1
 have dv:=b2.2.su b2.1
 have dw:=b2.1.su b1.1
 have bD:=du.cr dv
 have bN:=dw.cr dv
 refine qac (fun t=>t==2||t==3||t==4||t==7||t==8||t==9||t==10||t==11||t==12||t==14) mixed tOk Tryz.func204 rfl rfl ?_
 conv=>whnf
 refine qaa rfl rfl k1 ?_
 conv=>whnf
 refine qaZ (by decide) ?_
 conv=>whnf
 refine qaa rfl rfl k2 ?_
 conv=>whnf
 refine qaZ (by decide) ?_
 conv=>whnf
 refine qab o1 ?_
 conv=>whnf
 refine qab o2 ?_
 conv=>whnf
 refine qad (by kernel_rfl) ?_
 conv=>whnf
 refine qab (qhW qy.1 qy.2 qx.1 qx.2) ?_
 conv=>whnf
 refine qab (qhW qw.1 qw.2 qz.1 qz.2) ?_
 conv=>whnf
 refine qad (by kernel_rfl) ?_
 conv=>whnf
 refine qaa rfl rfl (qg5 du dv (by omega)) ?_
 conv=>whnf
 refine qaa rfl rfl (qjU (.mk bD (by omega))) ?_
 conv=>whnf
 refine qa4 (fun h1=> ?_) (fun h1=> ?_)
 ·have hD:crQ (su y x) (su w z)=0:=qcp.1 h1
  conv=>whnf
  refine qaa rfl rfl (qb4 b1.1 b1.2 b2.1 (by omega)) ?_
  conv=>whnf
  refine qav (fun h2=> ?_) (fun h2=> ?_)
  ·rw [show fm0 x y z w=none by unfold fm0;rw [if_pos hD,if_pos h2]]
   conv=>whnf
   refine ⟨?_, ?_, ?_,trivial⟩
   ·rw [qtt]
    conv=>whnf
    exact ⟨rfl,rfl,rfl,rfl,rfl,rfl,rfl,rfl,rfl,rfl,rfl,rfl,trivial⟩
   ·conv=>whnf
    rfl
   ·conv=>whnf
  ·have e0:fm0 x y z w=if 0<cmP (qfd x z) (qgm y w) then none else some (qfd x z,qgm y w):=by
    unfold fm0;rw [if_pos hD,if_neg (fun hh=>hh h2)]
   have g1:Fun Tryz.prog 275 [pD x,pD z] [pD (qfd x z)] :=qo4 qx qz
   have g2:Fun Tryz.prog 276 [pD y,pD w] [pD (qgm y w)] :=qpR qy qw
   have q1:=qrd (P:=QP) qx qz
   have q2:=qur (P:=QP) qy qw
   rw [e0]
   generalize qfd x z=g at*
   generalize qgm y w=m at*
   conv=>whnf
   refine qab g1 ?_
   conv=>whnf
   refine qab g2 ?_
   conv=>whnf
   refine qad (by kernel_rfl) ?_
   conv=>whnf
   refine qaa rfl rfl (qeb q1 q2) ?_
   conv=>whnf
   refine qaf (fun h3=> ?_) (fun h3=> ?_)
   ·rw [if_pos h3]
    conv=>whnf
    refine ⟨?_, ?_, ?_,trivial⟩
    ·rw [qtt]
     conv=>whnf
     exact ⟨rfl,rfl,rfl,rfl,rfl,rfl,rfl,rfl,rfl,rfl,rfl,rfl,trivial⟩
    ·conv=>whnf
     rfl
    ·conv=>whnf
   ·rw [if_neg h3]
    conv=>whnf
    refine ⟨?_, ?_, ?_,trivial⟩
    ·conv=>whnf
     exact ⟨rfl,rfl,rfl,rfl,rfl,rfl,rfl,rfl,rfl,rfl,rfl,rfl,trivial⟩
    ·conv=>whnf
     rfl
    ·conv=>whnf
 ·have hD:crQ (su y x) (su w z)≠0:=fun h=>h1 (qcp.2 h)
  have bk:=bN.div bD
  have e0:fm0 x y z w=if bwB x y (lin x y (crQ (su z x) (su w z)/crQ (su y x) (su w z)))&&bwB z w (lin x y (crQ (su z x) (su w z)/crQ (su y x) (su w z))) then
   some (lin x y (crQ (su z x) (su w z)/crQ (su y x) (su w z)),lin x y (crQ (su z x) (su w z)/crQ (su y x) (su w z))) else none:=by
    unfold fm0;rw [if_neg hD]
  rw [e0]
  conv=>whnf
  refine qab (qhW qz.1 qz.2 qx.1 qx.2) ?_
  conv=>whnf
  refine qab (qg5 dw dv (by omega)) ?_
  conv=>whnf
  refine qab (qAB (.mk bN (by omega)) (.mk bD (by omega)) hD) ?_
  conv=>whnf
  refine qad (by kernel_rfl) ?_
  conv=>whnf
  have hk: ∃k,k=crQ (su z x) (su w z)/crQ (su y x) (su w z):=⟨_,rfl⟩
  obtain ⟨k,hk⟩:=hk
  rw [<-hk] at bk ⊢
  have m1:=du.1.mul bk
  have m2:=du.2.mul bk
  have p1:=b1.1.1.add m1
  have p2:=b1.1.2.add m2
  refine qab (qsg (.mk du.1 (by omega)) (.mk du.2 (by omega)) (.mk bk (by omega))) ?_
  conv=>whnf
  refine qab (quX qx.1 qx.2 (.mk m1 (by omega)) (.mk m2 (by omega))) ?_
  conv=>whnf
  refine qad (by kernel_rfl) ?_
  conv=>whnf
  have qp:QP (lin x y k):=⟨.mk p1 (by omega),.mk p2 (by omega)⟩
  have t1:Fun Tryz.prog 280 [sD x y,pD (lin x y k)] [.v (.bool (bwB x y (lin x y k)))] :=qhD qx qy qp
  have t2:Fun Tryz.prog 280 [sD z w,pD (lin x y k)] [.v (.bool (bwB z w (lin x y k)))] :=qhD qz qw qp
  refine qaa rfl rfl t1 ?_
  conv=>whnf
  refine qbn (fun h3=> ?_) (fun h3=> ?_)
  ·rw [h3]
   conv=>whnf
   refine ⟨?_, ?_, ?_,trivial⟩
   ·rw [show (if (false&&bwB z w (lin x y k))=true then some (lin x y k,lin x y k) else none:Option (P2×P2))=none from rfl,qtt]
    conv=>whnf
    exact ⟨rfl,rfl,rfl,rfl,rfl,rfl,rfl,rfl,rfl,rfl,rfl,rfl,trivial⟩
   ·conv=>whnf
    rfl
   ·conv=>whnf
  ·rw [h3]
   conv=>whnf
   refine qaa rfl rfl t2 ?_
   conv=>whnf
   refine qbn (fun h4=> ?_) (fun h4=> ?_)
   ·rw [h4]
    conv=>whnf
    refine ⟨?_, ?_, ?_,trivial⟩
    ·rw [show (if (true&&false)=true then some (lin x y k,lin x y k) else none:Option (P2×P2))=none from rfl,qtt]
     conv=>whnf
     exact ⟨rfl,rfl,rfl,rfl,rfl,rfl,rfl,rfl,rfl,rfl,rfl,rfl,trivial⟩
    ·conv=>whnf
     rfl
    ·conv=>whnf
   ·rw [h4]
    conv=>whnf
    refine ⟨?_, ?_, ?_,trivial⟩
    ·conv=>whnf
     exact ⟨rfl,rfl,rfl,rfl,rfl,rfl,rfl,rfl,rfl,rfl,rfl,rfl,trivial⟩
    ·conv=>whnf
     rfl
    ·conv=>whnf
theorem qvF{a b c d:P2}(hab:a≠b)(hcd:c≠d):(mtQ a b c d).isSome=mtB a b c d:=by
 unfold mtB
 rw [decide_eq_false hab,decide_eq_false hcd];rfl
def qzn(a b:List P2)(i:Nat):St:=⟨fr 42 [(5,.d (.l (eL (cyc a)))),(6,.d (.l (eL (cyc b)))),(7,.d (i64 i))], []⟩
def qu5(a b:List P2)(i k:Nat):St:=⟨fr 42 [(5,.d (.l (eL (cyc a)))),(6,.d (.l (eL (cyc b)))),(7,.d (i64 i)),(8,.d (i64 k))], []⟩
def mtE(a b:List P2)(i k:Nat):Bool:=mtB (ed a i).1 (ed a i).2 (ed b k).1 (ed b k).2
theorem qEV{a b:List P2}{i k:Nat}(hi:i<a.length)(hk:k<b.length)(h:mtE a b i k=true):mtR a b=true:=by
 unfold mtR
 exact List.any_eq_true.2 ⟨_,qky hi,List.any_eq_true.2 ⟨_,qky hk,h⟩⟩
theorem qCY{a b:List P2}(h: ∀i k,i<a.length->k<b.length->mtE a b i k=false):mtR a b=false:=by
 unfold mtR
 rw [List.any_eq_false];intro e he
 obtain ⟨i,hi,rfl⟩:=qiX he
 rw [Bool.not_eq_true,List.any_eq_false];intro f hf
 obtain ⟨k,hk,rfl⟩:=qiX hf
 have:=h i k hi hk
 unfold mtE at this
 rw [this];simp
theorem qmP{a b:List P2}{n:Nat}(ra:RgOk a)(rb:RgOk b)(ha: ∀p∈a,BP n p)(hb: ∀p∈b,BP n p)(hn:n<1000000):Fun Tryz.prog 142 [.l (pL a),.l (pL b)] [.v (.bool (mtR a b))] :=by
 have la:=ra.len
 have lb:=rb.len
 have hla:(eL (cyc a)).length=a.length:=by simp [qbp]
 have hlb:(eL (cyc b)).length=b.length:=by simp [qbp]
 refine qac (fun t=>t==9) mixed tOk Tryz.func142 rfl rfl ?_
 conv=>whnf
 refine qaa rfl rfl (qmX a (by omega)) ?_
 conv=>whnf
 refine qaa rfl rfl (qmX b (by omega)) ?_
 conv=>whnf
 refine qah (fun t=>t==9) (fun i:Nat=>qzn a b i) (fun i=>i<=a.length/\ ∀j k,j<i->k<b.length->mtE a b j k=false) (fun i=>a.length-i) 0 mixed tOk ⟨by omega,fun j k hj=>by omega⟩ ?_ ?_
 ·refine qag ?_ ?_<;>repeat' (first|exact trivial|exact rfl|apply And.intro)
 ·rintro i ⟨hi,hno⟩
  conv=>whnf
  refine qaf (fun hlt=> ?_) (fun hge=> ?_)
  ·have hlt':i<a.length:=by omega
   conv=>whnf
   refine qah (fun t=>t==9) (fun k:Nat=>qu5 a b i k) (fun k=>k<=b.length/\ ∀j,j<k->mtE a b i j=false) (fun k=>b.length-k) 0 mixed tOk ⟨by omega,fun j hj=>by omega⟩ ?_ ?_
   ·refine qag ?_ ?_<;>repeat' (first|exact trivial|exact rfl|apply And.intro)
   ·rintro k ⟨hk,hnok⟩
    conv=>whnf
    refine qaf (fun hlt2=> ?_) (fun hge2=> ?_)
    ·have hlt2':k<b.length:=by omega
     have e1:=qgM ha (show 0<a.length by omega) i
     have e2:=qgM hb (show 0<b.length by omega) k
     have n1:(ed a i).1≠(ed a i).2:=ra.ne i
     have n2:(ed b k).1≠(ed b k).2:=rb.ne k
     have hm:=qsv e1.1 e1.2 e2.1 e2.2 n1 n2 hn
     have hs:=qvF n1 n2
     have hE:mtE a b i k=mtB (ed a i).1 (ed a i).2 (ed b k).1 (ed b k).2:=rfl
     rw [hs, <-hE] at hm
     conv=>whnf
     refine qae (sD (ed a i).1 (ed a i).2) (qgw hlt') (by omega) (qeN _) ?_
     conv=>whnf
     refine qae (sD (ed b k).1 (ed b k).2) (qgw hlt2') (by omega) (qeN _) ?_
     conv=>whnf
     refine qab hm ?_
     conv=>whnf
     refine qad (by kernel_rfl) ?_
     conv=>whnf
     refine qal (fun c3=> ?_) (fun c3=> ?_)
     ·rw [qEV hlt' hlt2' c3]
      conv=>whnf
      refine ⟨?_,trivial⟩
      conv=>whnf
     ·conv=>whnf
      refine qak (by omega) ?_
      conv=>whnf
      refine ⟨k+1,⟨by omega,fun j hj=> ?_⟩,by omega, ?_⟩
      ·by_cases hjk:j=k
       ·subst hjk;exact c3
       ·exact hnok j (by omega)
      unfold qu5;rw [Int.natCast_succ]
      refine qai 0 rfl ?_
      refine qag ?_ ?_<;>repeat' (first|exact trivial|exact rfl|apply And.intro)
    ·conv=>whnf
     refine qak (by omega) ?_
     conv=>whnf
     refine ⟨i+1,⟨by omega,fun j k' hj hk'=> ?_⟩,by omega, ?_⟩
     ·by_cases hji:j=i
      ·subst hji;exact hnok k' (by omega)
      ·exact hno j k' (by omega) hk'
     unfold qzn;rw [Int.natCast_succ]
     refine qag ?_ ?_<;>repeat' (first|exact trivial|exact rfl|apply And.intro)
  ·have:i=a.length:=by omega
   subst this
   rw [qCY (fun i k hi hk=>hno i k hi hk)]
   conv=>whnf
   refine ⟨?_,trivial⟩
   conv=>whnf
theorem qvW{a b:List P2}(hb:RgOk b):wiB a b=decide (inV b (ix a 0)=1):=by
 have he:inE b=0:=by unfold inE;rw [if_neg (fun h=>h (qa3.2 hb))]
 unfold wiB
 rw [he,Bool.eq_iff_iff,Bool.and_eq_true,decide_eq_true_eq,decide_eq_true_eq,decide_eq_true_eq]
 rcases qlK b (ix a 0) with h|h|h<;>omega
theorem qsY{α:Type}{l:List α}{f:α->Bool}{d:α}(h:l.any f=true): ∃k,k<l.length/\f (l.getD k d)=true:=by
 obtain ⟨x,hx,hf⟩:=List.any_eq_true.1 h
 obtain ⟨k,hk,rfl⟩:=List.getElem_of_mem hx
 exact ⟨k,hk,by rw [List.getD_eq_getElem?_getD,List.getElem?_eq_getElem hk];exact hf⟩
theorem qi9{α:Type}{l:List α}{f:α->Bool}{d:α}{k:Nat}(hk:k<l.length)(h:f (l.getD k d)=true):l.any f=true:=by
 rw [List.getD_eq_getElem?_getD,List.getElem?_eq_getElem hk] at h
 exact List.any_eq_true.2 ⟨_,List.getElem_mem hk,h⟩
theorem qi5{α:Type}{l:List α}{f:α->Bool}{d:α}(h: ∀k,k<l.length->f (l.getD k d)=false):l.any f=false:=by
 cases hb:l.any f with
 |false=>rfl
 |true=>
  obtain ⟨k,hk,hf⟩:=qsY (d:=d) hb
  rw [h k hk] at hf;exact absurd hf (by decide)
theorem pre_at{hs:List (List (RD×RD))}{i n:Nat}(hi:i<=hs.length)(hpre: ∀h∈hs.take i,rgR h=0)(hb: ∀h∈hs,∀p∈h,BP n (vP p)/\SzP p){k:Nat}(hk:k<i):
  (hR hs)[((k:Nat):Int).toNat]? =some (.l (pL (((hs.take i).map (List.map vP)).getD k [])))/\RgOk (((hs.take i).map (List.map vP)).getD k [])/\ ∀p∈((hs.take i).map (List.map vP)).getD k [],BP n p:=by
 have hkl:k<hs.length:=by omega
 have e:((hs.take i).map (List.map vP)).getD k [] =hs[k].map vP:=by
  rw [List.getD_eq_getElem?_getD,List.getElem?_map,List.getElem?_take_of_lt hk,List.getElem?_eq_getElem hkl];rfl
 have hm:hs[k] ∈hs.take i:=by
  rw [List.mem_take_iff_getElem]
  exact ⟨k,by omega,rfl⟩
 have hz:=qbk (hpre _ hm)
 rw [e]
 refine ⟨?_,qa3.1 hz.2.1,fun p hp=> ?_⟩
 ·rw [qh2 hkl,qft hz.1]
 ·obtain ⟨q,hq,rfl⟩:=List.mem_map.1 hp
  exact (hb _ (List.getElem_mem hkl) q hq).1
def qwQ(o:List P2)(hs:List (List (RD×RD)))(i:Nat):St:=⟨fr 101 [(1,.d (.p 0 [.l (pL o),.l (hR hs)])),(4,.d (i64 i))], []⟩
def qtN(o:List P2)(hs:List (List (RD×RD)))(h:List P2)(i k:Nat):St:=⟨fr 101 [(1,.d (.p 0 [.l (pL o),.l (hR hs)])),(4,.d (i64 i)),(5,.d (.l (pL h))),(7,.d (i64 k))], []⟩
def qtR(o:List P2)(hs:List (List (RD×RD)))(h:List P2)(i k:Nat):St:=⟨fr 101 [(1,.d (.p 0 [.l (pL o),.l (hR hs)])),(4,.d (i64 i)),(5,.d (.l (pL h))),(8,.d (i64 k))], []⟩
theorem qqB(o:List (RD×RD))(hs:List (List (RD×RD))){n:Nat}(hn:n<1000000)(hlo:o.length<=1000)(hlen:hs.length<=100000)
  (hob: ∀p∈o,BP n (vP p)/\SzP p) (hb: ∀h∈hs,∀p∈h,BP n (vP p)/\SzP p) (hlb: ∀h∈hs,h.length<=1000):
  Fun Tryz.prog 87 [pgR o hs] [i64 (pgE o hs)] :=by
 have hll:(hR hs).length=hs.length:=by simp
 refine qac (fun t=>false) mixed tOk Tryz.func87 rfl rfl ?_
 conv=>whnf
 refine qaa rfl rfl (qh6 o (fun p hp=>(hob p hp).2) (fun p hp=>(hob p hp).1) hn hlo) ?_
 conv=>whnf
 refine qav (fun c1=> ?_) (fun c1=> ?_)
 ·have e:pgE o hs=rgR o:=by unfold pgE;rw [if_pos c1]
  rw [e]
  conv=>whnf
  exact ⟨rfl,trivial⟩
 conv=>whnf
 refine qaf (fun c2=> ?_) (fun c2=> ?_)
 ·have e:pgE o hs=4:=by unfold pgE;rw [if_neg (fun hh=>hh c1),if_pos (by omega)]
  rw [e]
  conv=>whnf
  exact ⟨rfl,trivial⟩
 have e0:pgE o hs=hoL (o.map vP) [] hs:=by unfold pgE;rw [if_neg (fun hh=>hh c1),if_neg (by omega)]
 obtain ⟨o1,o2,o3,o4⟩:=qbk c1
 have ro:=qa3.1 o2
 have oq: ∀p∈o.map vP,BP n p:=fun p hp=>by obtain ⟨q,hq,rfl⟩:=List.mem_map.1 hp;exact (hob q hq).1
 rw [e0,show pgR o hs= .a [.l (pL (o.map vP)),.l (hR hs)] by unfold pgR;rw [qft o1]]
 generalize o.map vP=o' at*
 conv=>whnf
 refine qah (fun t=>false) (fun i:Nat=>qwQ o' hs i)
  (fun i=>i<=hs.length/\(∀h∈hs.take i,rgR h=0)/\hoL o' [] hs=hoL o' ((hs.take i).map (List.map vP)) (hs.drop i)) (fun i=>hs.length-i) 0 mixed tOk ⟨by omega,by simp,by simp⟩ ?_ ?_
 ·refine qag ?_ ?_<;>repeat' (first|exact trivial|exact rfl|apply And.intro)
 ·rintro i ⟨hi,hpre,heq⟩
  rw [heq]
  conv=>whnf
  refine qaf (fun hlt=> ?_) (fun hge=> ?_)
  ·have hlt':i<hs.length:=by omega
   rw [List.drop_eq_getElem_cons hlt']
   have htk:hs.take (i+1)=hs.take i++ [hs[i]] :=List.take_succ_eq_append_getElem hlt'
   have hmem:hs[i] ∈hs:=List.getElem_mem _
   have hhb:=hb _ hmem
   have hhl:=hlb _ hmem
   have hget:=qh2 hlt'
   have hpk:=fun k (hk:k<i)=>pre_at hi hpre hb hk
   have plen:((hs.take i).map (List.map vP)).length=i:=by rw [List.length_map,List.length_take];omega
   have hst:rgR hs[i] =0->hoE o' ((hs.take i).map (List.map vP)) (hs[i].map vP)=0->hoL o' ((hs.take i).map (List.map vP)) (hs[i] ::hs.drop (i+1))=hoL o' ((hs.take (i+1)).map (List.map vP)) (hs.drop (i+1)):=fun h1 h2=>by
    rw [hoL,if_neg (fun hh=>hh h1),if_neg (fun hh=>hh h2),htk,List.map_append];rfl
   have hend1:rgR hs[i] ≠0->hoL o' ((hs.take i).map (List.map vP)) (hs[i] ::hs.drop (i+1))=rgR hs[i] :=fun h1=>by
    rw [hoL,if_pos h1]
   have hend2:rgR hs[i] =0->hoE o' ((hs.take i).map (List.map vP)) (hs[i].map vP)≠0->hoL o' ((hs.take i).map (List.map vP)) (hs[i] ::hs.drop (i+1))=hoE o' ((hs.take i).map (List.map vP)) (hs[i].map vP):=fun h1 h2=>by
    rw [hoL,if_neg (fun hh=>hh h1),if_pos h2]
   have hpre':rgR hs[i] =0-> ∀h∈hs.take (i+1),rgR h=0:=fun z1 h hh=>by
    rw [htk] at hh
    rcases List.mem_append.1 hh with hh|hh
    ·exact hpre h hh
    ·rw [List.mem_singleton.1 hh];exact z1
   have hSz: ∀p∈hs[i],SzP p:=fun p hp=>(hhb p hp).2
   have hBp: ∀p∈hs[i],BP n (vP p):=fun p hp=>(hhb p hp).1
   generalize hoL o' ((hs.take i).map (List.map vP)) (hs[i] ::hs.drop (i+1))=Z at*
   generalize (hs.take i).map (List.map vP)=pre at*
   generalize hs[i] =h at*
   conv=>whnf
   refine qae (.l (rL h)) hget (by omega) (qcO _) ?_
   conv=>whnf
   refine qaa rfl rfl (qh6 h hSz hBp hn hhl) ?_
   conv=>whnf
   refine qav (fun c3=> ?_) (fun c3=> ?_)
   ·rw [hend1 c3]
    conv=>whnf
    exact ⟨rfl,trivial⟩
   obtain ⟨k1,k2,k3,k4⟩:=qbk c3
   have rh:=qa3.1 k2
   have hq: ∀p∈h.map vP,BP n p:=fun p hp=>by obtain ⟨r,hr,rfl⟩:=List.mem_map.1 hp;exact hBp r hr
   have hvl:(h.map vP).length=h.length:=List.length_map ..
   replace hend2:=hend2 c3
   replace hst:=hst c3
   replace hpre':=hpre' c3
   rw [qft k1]
   generalize h.map vP=h' at*
   have h0:0<h'.length:=by omega
   have b0:=hq _ (qbf h0 (k:=0))
   conv=>whnf
   refine qaa rfl rfl (qmP rh ro hq oq hn) ?_
   conv=>whnf
   refine qal (fun c4=> ?_) (fun c4=> ?_)
   ·have e:hoE o' pre h'=13:=by unfold hoE;rw [if_pos (.inl c4)]
    rw [hend2 (by rw [e];decide),e]
    conv=>whnf
    exact ⟨rfl,trivial⟩
   conv=>whnf
   refine qah (fun t=>false) (fun k:Nat=>qtN o' hs h' i k) (fun k=>k<=i/\ ∀j,j<k->mtR h' (pre.getD j [])=false) (fun k=>i-k) 0 mixed tOk ⟨by omega,fun j hj=>by omega⟩ ?_ ?_
   ·refine qag ?_ ?_<;>repeat' (first|exact trivial|exact rfl|apply And.intro)
   rintro k ⟨hk,hnok⟩
   conv=>whnf
   refine qaf (fun hlt2=> ?_) (fun hge2=> ?_)
   ·have hk':k<i:=by omega
    obtain ⟨g1,g2,g3⟩:=hpk k hk'
    have e13:mtR h' (pre.getD k [])=true->hoE o' pre h'=13:=fun hh=>by
     unfold hoE;rw [if_pos (.inr (qi9 (by omega) hh))]
    have hstep:mtR h' (pre.getD k [])=false-> ∀j,j<k+1->mtR h' (pre.getD j [])=false:=fun hh j hj=>by
     by_cases hjk:j=k
     ·subst hjk;exact hh
     ·exact hnok j (by omega)
    generalize pre.getD k [] =x at*
    conv=>whnf
    refine qae (.l (pL x)) g1 (by omega) (qcO _) ?_
    conv=>whnf
    refine qaa rfl rfl (qmP rh g2 hq g3 hn) ?_
    conv=>whnf
    refine qal (fun c5=> ?_) (fun c5=> ?_)
    ·have e:=e13 c5
     rw [hend2 (by rw [e];decide),e]
     conv=>whnf
     exact ⟨rfl,trivial⟩
    ·conv=>whnf
     refine qak (by omega) ?_
     conv=>whnf
     refine ⟨k+1,⟨by omega,hstep c5⟩,by omega, ?_⟩
     unfold qtN;rw [Int.natCast_succ]
     refine qag ?_ ?_<;>repeat' (first|exact trivial|exact rfl|apply And.intro)
   have a1:pre.any (fun x=>mtR h' x)=false:=qi5 (d:= []) (fun j hj=>hnok j (by omega))
   have n1: ¬(mtR h' o'=true\/pre.any (fun x=>mtR h' x)=true):=by rw [c4,a1];decide
   conv=>whnf
   refine qae (pD (ix h' 0)) (qdt h0) (by omega) (qaA _) ?_
   conv=>whnf
   refine qab (qhM ro oq b0 hn) ?_
   conv=>whnf
   refine qad (by kernel_rfl) ?_
   conv=>whnf
   rw [<-qvW ro]
   refine qbn (fun c5=> ?_) (fun c5=> ?_)
   ·have e:hoE o' pre h'=14:=by unfold hoE;rw [if_neg n1,if_pos c5]
    rw [hend2 (by rw [e];decide),e]
    conv=>whnf
    exact ⟨rfl,trivial⟩
   have n2: ¬wiB h' o'=false:=by rw [c5];decide
   conv=>whnf
   refine qah (fun t=>false) (fun k:Nat=>qtR o' hs h' i k) (fun k=>k<=i/\ ∀j,j<k->(wiB h' (pre.getD j [])||wiB (pre.getD j []) h')=false) (fun k=>i-k) 0 mixed tOk ⟨by omega,fun j hj=>by omega⟩ ?_ ?_
   ·refine qag ?_ ?_<;>repeat' (first|exact trivial|exact rfl|apply And.intro)
   rintro m ⟨hm,hnom⟩
   conv=>whnf
   refine qaf (fun hlt3=> ?_) (fun hge3=> ?_)
   ·have hm':m<i:=by omega
    obtain ⟨g1,g2,g3⟩:=hpk m hm'
    have e22:(wiB h' (pre.getD m [])||wiB (pre.getD m []) h')=true->hoE o' pre h'=22:=fun hh=>by
     unfold hoE;rw [if_neg n1,if_neg n2,if_pos (qi9 (f:=fun x=>wiB h' x||wiB x h') (by omega) hh)]
    have hstep:(wiB h' (pre.getD m [])||wiB (pre.getD m []) h')=false-> ∀j,j<m+1->(wiB h' (pre.getD j [])||wiB (pre.getD j []) h')=false:=fun hh j hj=>by
     by_cases hjk:j=m
     ·subst hjk;exact hh
     ·exact hnom j (by omega)
    generalize pre.getD m [] =x at*
    have x0:0<x.length:=by have:=g2.len;omega
    have bx:=g3 _ (qbf x0 (k:=0))
    conv=>whnf
    refine qae (.l (pL x)) g1 (by omega) (qcO _) ?_
    conv=>whnf
    refine qae (pD (ix h' 0)) (qdt h0) (by omega) (qaA _) ?_
    conv=>whnf
    refine qab (qhM g2 g3 b0 hn) ?_
    conv=>whnf
    rw [<-qvW g2]
    refine qal (fun c6=> ?_) (fun c6=> ?_)
    ·have e:=e22 (by rw [c6];rfl)
     rw [hend2 (by rw [e];decide),e]
     conv=>whnf
     refine qad (by kernel_rfl) ?_
     conv=>whnf
     exact ⟨rfl,trivial⟩
    ·rw [c6] at e22 hstep
     conv=>whnf
     refine qae (.l (pL x)) g1 (by omega) (qcO _) ?_
     conv=>whnf
     refine qae (pD (ix x 0)) (qdt x0) (by omega) (qaA _) ?_
     conv=>whnf
     refine qab (qhM rh hq bx hn) ?_
     conv=>whnf
     refine qad (by kernel_rfl) ?_
     conv=>whnf
     rw [<-qvW rh]
     refine qal (fun c7=> ?_) (fun c7=> ?_)
     ·have e:=e22 (by rw [c7];rfl)
      rw [hend2 (by rw [e];decide),e]
      conv=>whnf
      exact ⟨rfl,trivial⟩
     ·conv=>whnf
      refine qak (by omega) ?_
      conv=>whnf
      refine ⟨m+1,⟨by omega,hstep (by rw [c7];rfl)⟩,by omega, ?_⟩
      unfold qtR;rw [Int.natCast_succ]
      refine qag ?_ ?_<;>repeat' (first|exact trivial|exact rfl|apply And.intro)
   have a2:pre.any (fun x=>wiB h' x||wiB x h')=false:=qi5 (d:= []) (fun j hj=>hnom j (by omega))
   have n3: ¬pre.any (fun x=>wiB h' x||wiB x h')=true:=by rw [a2];decide
   have e0:hoE o' pre h'=if 0<pre.length/\0<=cmP (ix (pre.getD (pre.length-1) []) 0) (ix h' 0) then 8 else 0:=by
    unfold hoE;rw [if_neg n1,if_neg n2,if_neg n3]
   conv=>whnf
   refine qaf (fun c6=> ?_) (fun c6=> ?_)
   ·obtain ⟨g1,g2,g3⟩:=hpk (i-1) (by omega)
    have gx:(hR hs)[((i:Int)-1).toNat]? =some (.l (pL (pre.getD (i-1) []))):=by
     have e:((i:Int)-1)=((i-1:Nat):Int):=by omega
     rw [e];exact g1
    rw [plen] at e0
    generalize pre.getD (i-1) [] =x at*
    have x0:0<x.length:=by have:=g2.len;omega
    have bx:=g3 _ (qbf x0 (k:=0))
    conv=>whnf
    refine qak (by omega) ?_
    conv=>whnf
    refine qae (.l (pL x)) gx (by omega) (qcO _) ?_
    conv=>whnf
    refine qae (pD (ix x 0)) (qdt x0) (by omega) (qaA _) ?_
    conv=>whnf
    refine qae (pD (ix h' 0)) (qdt h0) (by omega) (qaA _) ?_
    conv=>whnf
    refine qab (qeb (bx.q (by omega)) (b0.q (by omega))) ?_
    conv=>whnf
    refine qad (by kernel_rfl) ?_
    conv=>whnf
    refine qaf (fun c7=> ?_) (fun c7=> ?_)
    ·rw [if_pos ⟨by omega,c7⟩] at e0
     rw [hend2 (by rw [e0];decide),e0]
     conv=>whnf
     exact ⟨rfl,trivial⟩
    ·rw [if_neg (fun hh=>c7 hh.2)] at e0
     rw [hst e0]
     conv=>whnf
     refine qak (by omega) ?_
     conv=>whnf
     refine ⟨i+1,⟨by omega,hpre',rfl⟩,by omega, ?_⟩
     unfold qwQ;rw [Int.natCast_succ]
     refine qag ?_ ?_<;>repeat' (first|exact trivial|exact rfl|apply And.intro)
   ·rw [if_neg (fun hh=>c6 (by omega))] at e0
    rw [hst e0]
    conv=>whnf
    refine qad (by kernel_rfl) ?_
    conv=>whnf
    refine qak (by omega) ?_
    conv=>whnf
    refine ⟨i+1,⟨by omega,hpre',rfl⟩,by omega, ?_⟩
    unfold qwQ;rw [Int.natCast_succ]
    refine qag ?_ ?_<;>repeat' (first|exact trivial|exact rfl|apply And.intro)
  ·have:i=hs.length:=by omega
   subst this
   rw [List.drop_length,hoL]
   conv=>whnf
   exact ⟨rfl,trivial⟩
theorem qvy(a b c d:RD)(ha:Sz a)(hb:Sz b)(hc:Sz c)(hd:Sz d):Fun Tryz.prog 81 [quR a b c d] [.v (.bool (vbB a b c d))] :=by
 have fin: ∀z:Bool,(z=true↔okP a b=0/\okP c d=0/\a.val<c.val/\b.val<d.val)->z=vbB a b c d:=fun z hz=>by
  unfold vbB
  rw [Bool.eq_iff_iff,hz,decide_eq_true_eq]
 refine qac (fun t=>false) mixed tOk Tryz.func81 rfl rfl ?_
 conv=>whnf
 refine qaa rfl rfl (qdU a b ha hb) ?_
 conv=>whnf
 refine qa4 (fun h1=> ?_) (fun h1=> ?_)
 ·conv=>whnf
  refine qaa rfl rfl (qdU c d hc hd) ?_
  conv=>whnf
  refine qa4 (fun h2=> ?_) (fun h2=> ?_)
  ·conv=>whnf
   refine qaa rfl rfl (qfu a c ha hc) ?_
   conv=>whnf
   refine qaf (fun h3=> ?_) (fun h3=> ?_)
   ·conv=>whnf
    refine qaa rfl rfl (qfu b d hb hd) ?_
    conv=>whnf
    refine ⟨?_,trivial⟩
    conv=>whnf
    rw [qaJ]
    refine fin _ ?_
    rw [decide_eq_true_eq]
    rw [qdN] at h3 ⊢
    exact ⟨fun h4=>⟨h1,h2,h3,h4⟩,fun h4=>h4.2.2.2⟩
   ·conv=>whnf
    refine ⟨?_,trivial⟩
    conv=>whnf
    exact fin false ⟨fun h=>by simp at h,fun h=>absurd (qdN.2 h.2.2.1) h3⟩
  ·conv=>whnf
   refine ⟨?_,trivial⟩
   conv=>whnf
   exact fin false ⟨fun h=>by simp at h,fun h=>absurd h.2.1 h2⟩
 ·conv=>whnf
  refine ⟨?_,trivial⟩
  conv=>whnf
  exact fin false ⟨fun h=>by simp at h,fun h=>absurd h.1 h1⟩
structure SzO (n:Nat) (x:Ob):Prop where
 hn:n<1000000
 o: ∀p∈x.o,BP n (vP p)/\SzP p
 h: ∀l∈x.hs,∀p∈l,BP n (vP p)/\SzP p
 lo:x.o.length<=1000
 lh:x.hs.length<=1000
 ll: ∀l∈x.hs,l.length<=1000
@[irreducible] def obE(x:Ob):Int:=if nmB x.nm=true then pgE x.o x.hs else 3
theorem qwX{x:Ob}(h:nmB x.nm=false):obE x=3:=by unfold obE;rw [if_neg (by rw [h];decide)]
theorem qsc{x:Ob}(h:nmB x.nm=true):obE x=pgE x.o x.hs:=by unfold obE;rw [if_pos h]
theorem qpJ{n:Nat}{x:Ob}(h:SzO n x):Fun Tryz.prog 82 [obD x] [i64 (obE x)] :=by
 have hp:=qnS x.o x.hs h.hn (by have:=h.lo;omega) (by have:=h.lh;omega) h.o h.h (fun l hl=>by have:=h.ll l hl;omega)
 refine qac (fun t=>false) mixed tOk Tryz.func82 rfl rfl ?_
 conv=>whnf
 refine qaa rfl rfl (qtp x.nm) ?_
 conv=>whnf
 refine qbn (fun c1=> ?_) (fun c1=> ?_)
 ·rw [qwX c1]
  conv=>whnf
  exact ⟨rfl,trivial⟩
 ·rw [qsc c1]
  conv=>whnf
  refine qaa rfl rfl hp ?_
  conv=>whnf
  refine ⟨?_,trivial⟩
  conv=>whnf
def scE:List Ob->List Ob->Int
 |_, [] =>0
 |pre,x::t=>if obE x≠0 then obE x else if pre.any (isN x.nm)=true then 5 else scE (pre++ [x]) t
structure Ws where
 a:RD
 b:RD
 c:RD
 d:RD
 l:List Ob
noncomputable abbrev wsD(w:Ws):D:= .a ((quR w.a w.b w.c w.d).cells++ [.l (oL w.l)])
structure SzW (n:Nat) (w:Ws):Prop where
 a:Sz w.a
 b:Sz w.b
 c:Sz w.c
 d:Sz w.d
 l: ∀x∈w.l,SzO n x
@[irreducible] def wsE(w:Ws):Int:=if vbB w.a w.b w.c w.d=false then 1 else if 32<w.l.length then 4 else scE [] w.l
theorem qz5(l:List Ob)(i:Nat):qcu (oL l) (0:Int).toNat (i:Int).toNat=oL (l.take i):=by
 unfold oL qcu
 simp
theorem qnb{n:Nat}{w:Ws}(h:SzW n w)(hl:w.l.length<1000000000000000):Fun Tryz.prog 26 [wsD w] [i64 (wsE w)] :=by
 have hll:(oL w.l).length=w.l.length:=by simp
 refine qac (fun t=>t==4) mixed tOk Tryz.func26 rfl rfl ?_
 conv=>whnf
 refine qaa rfl rfl (qvy w.a w.b w.c w.d h.a h.b h.c h.d) ?_
 conv=>whnf
 refine qbn (fun c1=> ?_) (fun c1=> ?_)
 ·have e:wsE w=1:=by unfold wsE;rw [if_pos c1]
  rw [e]
  conv=>whnf
  exact ⟨rfl,trivial⟩
 ·conv=>whnf
  refine qaf (fun c2=> ?_) (fun c2=> ?_)
  ·have e:wsE w=4:=by unfold wsE;rw [if_neg (by rw [c1];decide),if_pos (by omega)]
   rw [e]
   conv=>whnf
   exact ⟨rfl,trivial⟩
  ·have e:wsE w=scE [] w.l:=by unfold wsE;rw [if_neg (by rw [c1];decide),if_neg (by omega)]
   rw [e]
   conv=>whnf
   refine qah (fun t=>t==4) (fun i:Nat=>⟨fr 36 [(1,.d (.p 0 (wsD w).cells)),(15,.d (.l (oL w.l))),(16,.d (i64 (oL w.l).length)),(17,.d (i64 i))], []⟩) (fun i=>i<=w.l.length/\scE [] w.l=scE (w.l.take i) (w.l.drop i)) (fun i=>w.l.length-i) 0 mixed tOk ⟨by omega,rfl⟩ ?_ ?_
   ·refine qag ?_ ?_<;>repeat' (first|exact trivial|exact rfl|apply And.intro)
   ·rintro i ⟨hi,hs⟩
    conv=>whnf
    refine qaf (fun hlt=> ?_) (fun hge=> ?_)
    ·have hlt':i<w.l.length:=by omega
     have hsx:=h.l _ (List.getElem_mem hlt')
     rw [List.drop_eq_getElem_cons hlt',scE] at hs
     conv=>whnf
     refine qae (obD w.l[i]) (qc3 hlt') (by omega) (qbS w.l) ?_
     conv=>whnf
     refine qaa rfl rfl (qpJ hsx) ?_
     conv=>whnf
     refine qav (fun k1=> ?_) (fun k1=> ?_)
     ·rw [hs,if_pos k1]
      conv=>whnf
      exact ⟨rfl,trivial⟩
     ·rw [if_neg (fun h=>h k1)] at hs
      conv=>whnf
      refine qa2 (by omega) (qbS _) ?_
      conv=>whnf
      have hx:=qlj (w.l.take i) w.l[i].nm (by simp;omega)
      rw [<-qz5] at hx
      refine qab hx ?_
      conv=>whnf
      refine qad (by kernel_rfl) ?_
      conv=>whnf
      have ha:=qfL (isN w.l[i].nm) (w.l.take i)
      refine qaf (fun k2=> ?_) (fun k2=> ?_)
      ·rw [decide_eq_true (by omega)] at ha
       rw [hs,if_pos ha.symm]
       conv=>whnf
       exact ⟨rfl,trivial⟩
      ·rw [decide_eq_false (by omega)] at ha
       rw [<-ha,if_neg (by decide)] at hs
       conv=>whnf
       refine qak (by omega) ?_
       conv=>whnf
       refine ⟨i+1,⟨by omega, ?_⟩,by omega, ?_⟩
       ·rw [hs,List.take_succ_eq_append_getElem hlt']
       rw [Int.natCast_succ]
       refine qai 0 rfl ?_
       refine qag ?_ ?_<;>repeat' (first|exact trivial|exact rfl|apply And.intro)
    ·have hiE:i=w.l.length:=by omega
     subst hiE
     rw [List.drop_length,scE] at hs
     rw [hs]
     conv=>whnf
     exact ⟨rfl,trivial⟩
theorem qs3(l:List P2)(hl:l.length<=1000000):Fun Tryz.prog 348 [.l (pL l)] [.l (pL l)] :=qtm (qw3 (pL l) (qaA l) (by simpa using hl)) (qaA l) (by decide)
theorem qF3{a p b:P2}{n:Nat}(ha:BP n a)(hp:BP n p)(hb:BP n b)(hn:n<1000000):Fun Tryz.prog 282 [pD a,pD p,pD b] [.v (.bool (decide (p=b)||decide (orI a p b=0)))] :=by
 refine qac (fun t=>false) mixed tOk Tryz.func282 rfl rfl ?_
 conv=>whnf
 have hpe:qdD (List.take qxV.cells (List.drop 0 (pD p).cells)) (List.take qxV.cells (List.drop 0 (pD b).cells))=decide (p.1=b.1/\p.2=b.2):=qsX _ _ _ _
 rw [hpe]
 generalize hb0:bz (decide (p.1=b.1/\p.2=b.2))=z
 rw [qaJ] at hb0
 cases z with
 |true=>
  have h1:p=b:=qlW.1 (of_decide_eq_true hb0)
  conv=>whnf
  refine ⟨?_,trivial⟩
  conv=>whnf
  rw [decide_eq_true h1];rfl
 |false=>
  have h1:p≠b:=fun h=>of_decide_eq_false hb0 (qlW.2 h)
  conv=>whnf
  refine qaa rfl rfl (qfM ha.1 ha.2 hp.1 hp.2 hb.1 hb.2 (by omega)) ?_
  conv=>whnf
  refine ⟨?_,trivial⟩
  conv=>whnf
  rw [decide_eq_false h1,qaJ,Bool.false_or];rfl
theorem qo0{l:List P2}{n:Nat}(hr:RgOk l)(hl: ∀p∈l,BP n p)(hn:n<1000000):Fun Tryz.prog 281 [.l (pL l),.f 282 []] [.l (pL l)] :=by
 have hlen:=hr.len
 have hll:(pL l).length=l.length:=by simp
 refine qac (fun t=>false) mixed tOk Tryz.func281 rfl rfl ?_
 conv=>whnf
 refine qrF (fun t=>false) mixed tOk ?_
 conv=>whnf
 refine qaa rfl rfl (qs3 l (by omega)) ?_
 conv=>whnf
 refine qqD ?_
 conv=>whnf
 refine qah (fun t=>false) (fun i:Nat=>⟨fr 48 [(0,.d (.l (pL l))),(1,.d (.f 282 [])),(5,.d (i64 (pL l).length)),(6,.d (i64 i))], []⟩) (fun i=>i<=l.length) (fun i=>l.length-i) 0 mixed tOk (by omega) ?_ ?_
 ·refine qai 0 rfl ?_
  refine qag ?_ ?_<;>repeat' (first|exact trivial|exact rfl|apply And.intro)
 ·intro i hi
  have h0:0<l.length:=by omega
  conv=>whnf
  refine qaI (by omega) ?_
  conv=>whnf
  refine qaf (fun hlt=> ?_) (fun hge=> ?_)
  ·have hlt':i<l.length:=by omega
   have e1:((i:Int)+((pL l).length:Int)-1)=((i+l.length-1:Nat):Int):=by omega
   have e2:((i:Int)+1)=((i+1:Nat):Int):=rfl
   have hq:=fun j=>hl _ (qbf h0 (k:=j))
   have hrm:=qF3 (hq (i+l.length-1)) (hq i) (hq (i+1)) (by omega)
   have hf:=hr.fl i hlt'
   unfold flB at hf
   rw [show (decide (ix l i=ix l (i+1))||decide (orI (ix l (i+l.length-1)) (ix l i) (ix l (i+1))=0))=false by rw [hf,decide_eq_false (hr.ne i)];rfl] at hrm
   conv=>whnf
   refine qak (by omega) ?_
   conv=>whnf
   refine qak (by omega) ?_
   conv=>whnf
   refine qak (by omega) ?_
   conv=>whnf
   refine qae (pD (ix l (i+l.length-1))) (by rw [e1];exact qmB h0) (by rw [e1,qcc,qck];omega) (qaA l) ?_
   conv=>whnf
   refine qae (pD (ix l i)) (qdt hlt') (by omega) (qaA l) ?_
   conv=>whnf
   refine qak (by omega) ?_
   conv=>whnf
   refine qak (by omega) ?_
   conv=>whnf
   refine qae (pD (ix l (i+1))) (by rw [e2];exact qmB h0) (by rw [e2,qcc,qck];omega) (qaA l) ?_
   conv=>whnf
   refine qab hrm ?_
   conv=>whnf
   refine qad (by kernel_rfl) ?_
   conv=>whnf
   refine qak (by omega) ?_
   conv=>whnf
   refine ⟨i+1,by omega,by omega, ?_⟩
   rw [Int.natCast_succ]
   refine qag ?_ ?_<;>repeat' (first|exact trivial|exact rfl|apply And.intro)
  ·have:i=l.length:=by omega
   subst this
   conv=>whnf
   refine ⟨?_,trivial⟩
   conv=>whnf
theorem qsT(a b:List P2)(ha:a.length<=1000)(hb:b.length<=1000):Fun Tryz.prog 284 [.l [.l (pL a),.l (pL b)]] [.l (pL (a++b))] :=by
 have hla:(pL a).length=a.length:=by simp
 have hlb:(pL b).length=b.length:=by simp
 refine qac (fun t=>t==6) mixed tOk Tryz.func284 rfl rfl ?_
 conv=>whnf
 refine qiG 3 (fun t=>t==6) mixed tOk ?_
 conv=>whnf
 have hu2:Uni 1 [D.l (pL a),D.l (pL b)] :=by intro x hx;simp at hx;rcases hx with rfl|rfl<;>rfl
 refine qaI (by show ((0:Int))<((2:Nat):Int);omega) ?_
 conv=>whnf
 refine qae (.l (pL a)) rfl (by omega) hu2 ?_
 conv=>whnf
 refine qak (by omega) ?_
 conv=>whnf
 refine qaU (by omega) ?_
 conv=>whnf
 refine qak (by omega) ?_
 conv=>whnf
 refine qaI (by show ((0+1:Int))<((2:Nat):Int);omega) ?_
 conv=>whnf
 refine qae (.l (pL b)) rfl (by omega) hu2 ?_
 conv=>whnf
 refine qak (by omega) ?_
 conv=>whnf
 refine qaU (by omega) ?_
 conv=>whnf
 refine qak (by omega) ?_
 conv=>whnf
 refine qaU (by show¬((0+1+1:Int))<((2:Nat):Int);omega) ?_
 conv=>whnf
 have hg:=qAW (a.length+b.length) (by omega)
 rw [show ((a.length+b.length:Nat):Int)=0+((pL a).length:Int)+((pL b).length:Int) by omega] at hg
 refine qip (bytes:=80) rfl hg ?_
 conv=>whnf
 refine qiG 3 (fun t=>t==6) mixed tOk ?_
 conv=>whnf
 refine qaI (by show ((0:Int))<((2:Nat):Int);omega) ?_
 conv=>whnf
 refine qae (.l (pL a)) rfl (by omega) hu2 ?_
 conv=>whnf
 refine qca (by intro x hx;simp at hx) (qaA a) (by simp only [maxLen,List.length_nil];omega) ?_
 conv=>whnf
 refine qak (by omega) ?_
 conv=>whnf
 refine qaI (by show ((0+1:Int))<((2:Nat):Int);omega) ?_
 conv=>whnf
 refine qae (.l (pL b)) rfl (by omega) hu2 ?_
 conv=>whnf
 refine qca (by simp only [List.nil_append];exact qaA a) (qaA b) (by simp only [maxLen,List.length_nil,List.nil_append];omega) ?_
 conv=>whnf
 refine qak (by omega) ?_
 conv=>whnf
 refine qaU (by show¬((0+1+1:Int))<((2:Nat):Int);omega) ?_
 conv=>whnf
 refine ⟨?_,trivial⟩
 conv=>whnf
 simp [pL]
theorem qgz{l:List P2}{n:Nat}(hr:RgOk l)(hl: ∀p∈l,BP n p)(hn:n<1000000):Fun Tryz.prog 205 [.l (pL l)] [.l (pL l),i64 0] :=by
 have hlen:=hr.len
 have hll:(pL l).length=l.length:=by simp
 have hta:Bd (1000*(4*n+2)+1) (tot crQ l/2):=by
  have:=qdH hl l.length (Nat.le_refl _)
  rw [qge] at this
  refine (this.div (qdZ 2 (n:=1) (by decide))).mono ?_
  have:l.length*(4*n+2)<=1000*(4*n+2):=Nat.mul_le_mul_right _ (by omega)
  omega
 have hk:kf l l.length=0:=hr.fst
 have hfc:=qpC l hl (by omega) (by omega)
 rw [hk] at hfc
 have hcc:=qiF l hl (by omega) (by omega)
 rw [hr.cr] at hcc
 have hpos:=ql4.2 hr.pos
 refine qac (fun t=>false) mixed tOk Tryz.func205 rfl rfl ?_
 conv=>whnf
 refine qaU (by omega) ?_
 conv=>whnf
 refine qaa rfl rfl (qnp l hl hn (by omega)) ?_
 conv=>whnf
 refine qaa rfl rfl (qo0 hr hl hn) ?_
 conv=>whnf
 refine qaU (by omega) ?_
 conv=>whnf
 refine qaa rfl rfl hcc ?_
 conv=>whnf
 refine qaa rfl rfl (qnU l hl (by omega) (by omega)) ?_
 conv=>whnf
 refine qaa rfl rfl (qiQ (.mk hta (by omega))) ?_
 conv=>whnf
 refine qaU (by omega) ?_
 conv=>whnf
 refine qaa rfl rfl hfc ?_
 conv=>whnf
 refine qa2 (by omega) (qaA l) ?_
 conv=>whnf
 refine qa2 (by omega) (qaA l) ?_
 conv=>whnf
 have hcat:=qsT l [] (by omega) (by simp)
 rw [List.append_nil] at hcat
 refine qg0 hcat (by simp [qcu,pL,List.take_of_length_le]) ?_
 conv=>whnf
 refine qad (by kernel_rfl) ?_
 conv=>whnf
 refine ⟨?_, ?_,trivial⟩
 ·conv=>whnf
 ·conv=>whnf
theorem qzo{a b:List P2}{n:Nat}(ha: ∀p∈a,BP n p)(hb: ∀p∈b,BP n p)(h0:0<a.length)(h1:0<b.length)(hn:n<1000000):Fun Tryz.prog 207 [.l (pL a),.l (pL b)] [i64 (cmP (ix a 0) (ix b 0))] :=by
 have q1:=(ha _ (qbf h0 (k:=0))).q (by omega)
 have q2:=(hb _ (qbf h1 (k:=0))).q (by omega)
 refine qac (fun t=>false) mixed tOk Tryz.func207 rfl rfl ?_
 conv=>whnf
 refine qae (pD (ix a 0)) (qdt (i:=0) h0) (by omega) (qaA a) ?_
 conv=>whnf
 refine qae (pD (ix b 0)) (qdt (i:=0) h1) (by omega) (qaA b) ?_
 conv=>whnf
 refine qab (qd9 q1.1 q1.2 q2.1 q2.2) ?_
 conv=>whnf
 refine qad (by kernel_rfl) ?_
 conv=>whnf
 refine ⟨?_,trivial⟩
 conv=>whnf
def Ord(hs:List (List P2)):Prop:= ∀i,i+1<hs.length->cmP (ix (hs.getD i []) 0) (ix (hs.getD (i+1) []) 0)<0
theorem qto{p q:P2}(h:cmP p q<0):0<=cmP q p:=by
 refine Classical.byContradiction fun hn=> ?_
 have h1:=qby.1 (show cmP p q<=0 by omega)
 have h2:=qby.1 (show cmP q p<=0 by omega)
 have:p=q:=by
  unfold leP at h1 h2
  exact Prod.ext (by grind) (by grind)
 have:=qb5.2 this
 omega
theorem qEl{hs:List (List P2)}{n:Nat}(hh: ∀h∈hs,(∀p∈h,BP n p)/\0<h.length)(ho:Ord hs)(hl:hs.length<=8)(hn:n<1000000):Fun Tryz.prog 351 [.l (hQ hs),i64 0,i64 hs.length,.f 207 []] [] :=by
 have hll:(hQ hs).length=hs.length:=by simp
 refine qac (fun t=>false) mixed tOk Tryz.func351 rfl rfl ?_
 conv=>whnf
 refine qak (by omega) ?_
 conv=>whnf
 refine qah (fun t=>false) (fun i:Nat=>⟨fr 53 [(0,.d (.l (hQ hs))),(1,.d (i64 0)),(2,.d (i64 hs.length)),(3,.d (.f 207 [])),(8,.d (i64 (i+1)))], []⟩) (fun i=>i<=hs.length) (fun i=>hs.length+1-i) 0 mixed tOk (by omega) ?_ ?_
 ·refine qag ?_ ?_<;>repeat' (first|exact trivial|exact rfl|apply And.intro)
 ·intro i hi
  conv=>whnf
  refine qaf (fun hlt=> ?_) (fun hge=> ?_)
  ·have h1:i+1<hs.length:=by omega
   have h0:i<hs.length:=by omega
   have m0:=hh _ (List.getElem_mem h0)
   have m1:=hh _ (List.getElem_mem h1)
   have hc:=qto (ho i h1)
   rw [List.getD_eq_getElem?_getD,List.getD_eq_getElem?_getD,List.getElem?_eq_getElem h0,List.getElem?_eq_getElem h1] at hc
   simp only [Option.getD_some] at hc
   have e1:((i:Int)+1)=((i+1:Nat):Int):=rfl
   conv=>whnf
   refine qiG 2 (fun t=>false) mixed tOk ?_
   conv=>whnf
   refine qaI (by omega) ?_
   conv=>whnf
   refine qae (.l (pL hs[i+1])) (by rw [e1];exact qgD h1) (by omega) (qeL _) ?_
   conv=>whnf
   refine qak (by omega) ?_
   conv=>whnf
   have e3:((i:Int)+1-1)=((i:Nat):Int):=by omega
   refine qae (.l (pL hs[i])) (by rw [e3];exact qgD h0) (by omega) (qeL _) ?_
   conv=>whnf
   refine qab (qzo m1.1 m0.1 m1.2 m0.2 hn) ?_
   conv=>whnf
   refine qad (by kernel_rfl) ?_
   conv=>whnf
   refine qaU (by omega) ?_
   conv=>whnf
   refine qak (by omega) ?_
   conv=>whnf
   refine ⟨i+1,by omega,by omega, ?_⟩
   rw [Int.natCast_succ]
   refine qag ?_ ?_<;>repeat' (first|exact trivial|exact rfl|apply And.intro)
  ·conv=>whnf
   exact trivial
theorem qtr{hs:List (List P2)}{n:Nat}(hh: ∀h∈hs,(∀p∈h,BP n p)/\0<h.length)(ho:Ord hs)(hl:hs.length<=8)(hn:n<1000000):Fun Tryz.prog 285 [.l (hQ hs),i64 hs.length,.f 207 []] [] :=by
 have hi:=qEl hh ho hl hn
 refine qac (fun t=>false) mixed tOk Tryz.func285 rfl rfl ?_
 conv=>whnf
 refine qiG 1 (fun t=>false) mixed tOk ?_
 conv=>whnf
 refine qaU (by omega) ?_
 conv=>whnf
 refine qaa rfl rfl hi ?_
 conv=>whnf
 refine qiG 1 (fun t=>false) mixed tOk ?_
 conv=>whnf
 refine qaU (by omega) ?_
 conv=>whnf
 exact trivial
theorem qr9{hs:List (List P2)}{n:Nat}(hh: ∀h∈hs,(∀p∈h,BP n p)/\0<h.length)(ho:Ord hs)(hl:hs.length<=8)(hn:n<1000000):Fun Tryz.prog 206 [.l (hQ hs),.f 207 []] [] :=by
 have hi:=qtr hh ho hl hn
 have hll:(hQ hs).length=hs.length:=by simp
 rw [<-hll] at hi
 refine qac (fun t=>false) mixed tOk Tryz.func206 rfl rfl ?_
 conv=>whnf
 refine qaa rfl rfl hi ?_
 conv=>whnf
 exact trivial
noncomputable def qFp(o:List P2)(hs:List (List P2))(i:Nat):St:=
 ⟨fr 25 [(0,.own 4 0),(1,.d (.p 0 [.l (pL o),.l (hQ hs)])),(11,.d (.l (hQ hs))),(12,.d (i64 (hQ hs).length)),(13,.d (i64 i))],
  [.box 43 [.d (.v (.slice none 0 0)),.d (.v (.slice none 0 0))],.box 35 [.d (i64 0)],.box 43 [.d (.l (pL o)),.own 3 0],.row 0 40 1 24 (hQ (hs.take i)),
  .loop .ready none #[12,13] (rfO Tryz.f146.body).1 (rfO Tryz.f146.body).2 (fr 43 [(2,.ptr 0 0 0),(3,.ptr 1 0 0),(4,.ptr 2 0 0)])]⟩
theorem qkA{o:List P2}{hs:List (List P2)}{n:Nat}(hro:RgOk o)(hrh: ∀h∈hs,RgOk h)(ho: ∀p∈o,BP n p)(hh: ∀h∈hs,∀p∈h,BP n p)(hor:Ord hs)(hl:hs.length<=8)(hn:n<1000000)
  (hck:Fun Tryz.prog 73 [.a [.l (pL o),.l (hQ hs)]] [i64 0]):Fun Tryz.prog 146 [.a [.l (pL o),.l (hQ hs)]] [.a [.l (pL o),.l (hQ hs)],i64 0] :=by
 have hll:(hQ hs).length=hs.length:=by simp
 refine qac (fun t=>t==2||t==3||t==4||t==5||t==6||t==7||t==8) mixed tOk Tryz.func146 rfl rfl ?_
 conv=>whnf
 refine qaa rfl rfl (qrH o hs) ?_
 conv=>whnf
 refine qlu 2 1 40 1 24 ?_
 refine qbX (g:=242) (cap:= [.d (.p 0 [.l (pL o),.l (hQ hs)])]) (fun t=>t==2||t==3||t==4||t==5||t==6||t==7||t==8) mixed tOk rfl rfl rfl rfl rfl ?_
 conv=>whnf
 refine qbG (fun t=>t==2||t==3||t==4||t==5||t==6||t==7||t==8) mixed tOk rfl rfl rfl ?_
 conv=>whnf
 refine qaa rfl rfl (qgz hro ho hn) ?_
 conv=>whnf
 refine qaZ (by decide) ?_
 conv=>whnf
 refine qem (by decide) ?_
 conv=>whnf
 refine qbV (fun t=>t==2||t==3||t==4||t==5||t==6||t==7||t==8) (fun i:Nat=>qFp o hs i) (fun i=>i<=hs.length) (fun i=>hs.length-i) 0 mixed tOk (by omega) ?_ ?_
 ·refine qai 5 rfl ?_
  refine qbC ?_ ?_<;>repeat' (first|exact trivial|exact rfl|apply And.intro)
 ·intro i hi
  conv=>whnf
  refine qaf (fun hlt=> ?_) (fun hge=> ?_)
  ·have hlt':i<hs.length:=by omega
   have hst:hQ (hs.take (i+1))=hQ (hs.take i)++ [.l (pL hs[i])] :=by rw [List.take_succ_eq_append_getElem hlt'];exact List.map_append ..
   have hlk:(hQ (hs.take i)).length=i:=by simp;omega
   conv=>whnf
   refine qae (.l (pL hs[i])) (qgD hlt') (by omega) (qeL _) ?_
   conv=>whnf
   refine qak (by omega) ?_
   conv=>whnf
   refine qbG (fun t=>t==2||t==3||t==4||t==5||t==6||t==7||t==8) mixed tOk rfl rfl rfl ?_
   conv=>whnf
   refine qaa rfl rfl (qgz (hrh _ (List.getElem_mem hlt')) (hh _ (List.getElem_mem hlt')) hn) ?_
   conv=>whnf
   refine qaZ (by decide) ?_
   conv=>whnf
   refine qaZ (by rw [beq_eq_false_iff_ne];omega) ?_
   conv=>whnf
   refine qca (qeL _) (by intro x hx;rcases List.mem_singleton.1 hx with rfl;rfl) (by simp only [maxLen,List.length_cons,List.length_nil];omega) ?_
   conv=>whnf
   refine qak (by omega) ?_
   conv=>whnf
   refine ⟨i+1,by omega,by omega, ?_⟩
   unfold qFp
   rw [hst,Int.natCast_succ]
   refine qai 5 rfl ?_
   refine qbC ?_ ?_<;>repeat' (first|exact trivial|exact rfl|apply And.intro)
  ·have:i=hs.length:=by omega
   subst this
   rw [show hs.take hs.length=hs from List.take_length]
   conv=>whnf
   refine qbr 3 (qaa rfl rfl (qr9 (fun h hm=>⟨hh h hm,by have:=(hrh h hm).len;omega⟩) hor hl hn) ?_)
   conv=>whnf
   refine qaa rfl rfl hck ?_
   conv=>whnf
   refine qaZ (by decide) ?_
   conv=>whnf
   refine ⟨?_, ?_,trivial⟩
   ·conv=>whnf
    exact ⟨rfl,rfl,trivial⟩
   ·conv=>whnf
theorem qCC{p v:P2}{n:Nat}(hp:BP n p)(hv:BP n v)(hn:n<1000000):Fun Tryz.prog 90 [pD p,.p 0 (pD v).cells] [pD (trP v p)] :=by
 refine qac (fun t=>t==3) mixed tOk Tryz.func90 rfl rfl ?_
 conv=>whnf
 refine qaa rfl rfl (qnn (.mk hp.1 (by omega)) (.mk hp.2 (by omega)) (.mk hv.1 (by omega)) (.mk hv.2 (by omega))) ?_
 conv=>whnf
 refine ⟨?_,trivial⟩
 conv=>whnf
 exact ⟨rfl,rfl,rfl,rfl,rfl,rfl,trivial⟩
theorem qpo{l:List P2}{v:P2}{n:Nat}(hl: ∀p∈l,BP n p)(hv:BP n v)(hlen:l.length<=1000)(hn:n<1000000):Fun Tryz.prog 145 [.l (pL l),.p 0 [.f 90 [.p 0 (pD v).cells]]] [.l (pL (trL v l))] :=by
 have hll:(pL l).length=l.length:=by simp
 refine qac (fun t=>t==4||t==6) mixed tOk Tryz.func145 rfl rfl ?_
 conv=>whnf
 refine qah (fun t=>t==4||t==6) (fun i:Nat=>⟨fr 21 [(1,.d (.p 0 [.f 90 [.p 0 (pD v).cells]])),(4,.own 1 0),(7,.d (.l (pL l))),(8,.d (i64 (pL l).length)),(9,.d (i64 i))], [.dead,.row 0 25 6 80 (pL (trL v (l.take i)))]⟩) (fun i=>i<=l.length) (fun i=>l.length-i) 0 mixed tOk (by omega) ?_ ?_
 ·refine qai 0 rfl ?_
  refine qag ?_ ?_<;>repeat' (first|exact trivial|exact rfl|apply And.intro)
 ·intro i hi
  conv=>whnf
  refine qaf (fun hlt=> ?_) (fun hge=> ?_)
  ·have hlt':i<l.length:=by omega
   have bi:=hl _ (List.getElem_mem hlt')
   have hst:pL (trL v (l.take (i+1)))=pL (trL v (l.take i))++ [pD (trP v l[i])] :=by rw [List.take_succ_eq_append_getElem hlt'];unfold trL;rw [List.map_append];exact List.map_append ..
   have hlk:(pL (trL v (l.take i))).length=i:=by simp [trL];omega
   conv=>whnf
   refine qae (pD l[i]) (qfq hlt') (by omega) (qaA l) ?_
   conv=>whnf
   refine qaa rfl rfl (qCC bi hv hn) ?_
   conv=>whnf
   refine qca (qaA _) (by intro x hx;rcases List.mem_singleton.1 hx with rfl;rfl) (by simp only [maxLen,List.length_cons,List.length_nil];omega) ?_
   conv=>whnf
   refine qak (by omega) ?_
   conv=>whnf
   refine ⟨i+1,by omega,by omega, ?_⟩
   rw [hst,Int.natCast_succ]
   refine qai 2 rfl ?_
   refine qag ?_ ?_<;>repeat' (first|exact trivial|exact rfl|apply And.intro)
  ·have:i=l.length:=by omega
   subst this
   rw [show l.take l.length=l from List.take_length]
   conv=>whnf
   refine ⟨?_,trivial⟩
   conv=>whnf
def trH(v:P2)(hs:List (List P2)):List (List P2):=hs.map (trL v)
theorem qsO{o:List P2}{hs:List (List P2)}{v:P2}{n:Nat}(hro:RgOk o)(hrh: ∀h∈hs,RgOk h)(ho: ∀p∈o,BP n p)(hh: ∀h∈hs,∀p∈h,BP n p)(hv:BP n v)(hl:hs.length<=8)(hn:n<100000)
  (hck:Fun Tryz.prog 73 [.a [.l (pL o),.l (hQ hs)]] [i64 0]) (hcan:Fun Tryz.prog 146 [.a [.l (pL (trL v o)),.l (hQ (trH v hs))]] [.a [.l (pL (trL v o)),.l (hQ (trH v hs))],i64 0]):
  Fun Tryz.prog 89 [.a [.l (pL o),.l (hQ hs)],.v (.bool true),.f 90 [.p 0 (pD v).cells]] [.a [.l (pL (trL v o)),.l (hQ (trH v hs))],i64 0] :=by
 have hll:(hQ hs).length=hs.length:=by simp
 refine qac (fun t=>t==6||t==9) mixed tOk Tryz.func89 rfl rfl ?_
 conv=>whnf
 refine qaa rfl rfl hck ?_
 conv=>whnf
 refine qaZ (by decide) ?_
 conv=>whnf
 refine qaa rfl rfl (qpo ho hv (by have:=hro.len;omega) (by omega)) ?_
 conv=>whnf
 refine qlu 1 1 40 1 24 ?_
 refine qah (fun t=>t==6||t==9) (fun i:Nat=>⟨fr 46 [(6,.ptr 0 0 0),(8,.d (.f 145 [.p 0 [.f 90 [.p 0 (pD v).cells]]])),(9,.ptr 1 0 0),(27,.d (.l (hQ hs))),(28,.d (i64 (hQ hs).length)),(29,.d (i64 i))],
  [.box 43 [.d (.v (.slice none 0 0)),.d (.v (.slice none 0 0))],.box 43 [.d (.l (pL (trL v o))),.own 2 0],.row 0 40 1 24 (hQ (trH v (hs.take i)))]⟩) (fun i=>i<=hs.length) (fun i=>hs.length-i) 0 mixed tOk (by omega) ?_ ?_
 ·refine qag ?_ ?_<;>repeat' (first|exact trivial|exact rfl|apply And.intro)
 ·intro i hi
  conv=>whnf
  refine qaf (fun hlt=> ?_) (fun hge=> ?_)
  ·have hlt':i<hs.length:=by omega
   have hst:hQ (trH v (hs.take (i+1)))=hQ (trH v (hs.take i))++ [.l (pL (trL v hs[i]))] :=by rw [List.take_succ_eq_append_getElem hlt'];unfold trH;rw [List.map_append];exact List.map_append ..
   have hlk:(hQ (trH v (hs.take i))).length=i:=by simp [trH];omega
   conv=>whnf
   refine qae (.l (pL hs[i])) (qgD hlt') (by omega) (qeL _) ?_
   conv=>whnf
   refine qab (qpo (hh _ (List.getElem_mem hlt')) hv (by have:=(hrh _ (List.getElem_mem hlt')).len;omega) (by omega)) ?_
   conv=>whnf
   refine qca (qeL _) (by intro x hx;rcases List.mem_singleton.1 hx with rfl;rfl) (by simp only [maxLen,List.length_cons,List.length_nil];omega) ?_
   conv=>whnf
   refine qad (by kernel_rfl) ?_
   conv=>whnf
   refine qak (by omega) ?_
   conv=>whnf
   refine ⟨i+1,by omega,by omega, ?_⟩
   rw [hst,Int.natCast_succ]
   refine qag ?_ ?_<;>repeat' (first|exact trivial|exact rfl|apply And.intro)
  ·have:i=hs.length:=by omega
   subst this
   rw [show hs.take hs.length=hs from List.take_length]
   conv=>whnf
   refine qbr 2 (qaa rfl rfl hcan ?_)
   conv=>whnf
   refine ⟨?_, ?_,trivial⟩
   ·conv=>whnf
    exact ⟨rfl,rfl,trivial⟩
   ·conv=>whnf
theorem qAs{o:List P2}{hs:List (List P2)}{v:P2}{n:Nat}(hv:BP n v)(hn:n<1000000)(hm:Fun Tryz.prog 89 [.a [.l (pL o),.l (hQ hs)],.v (.bool true),.f 90 [.p 0 (pD v).cells]] [.a [.l (pL (trL v o)),.l (hQ (trH v hs))],i64 0]):
  Fun Tryz.prog 32 [.a [.l (pL o),.l (hQ hs)],pD v] [.a [.l (pL (trL v o)),.l (hQ (trH v hs))],i64 0] :=by
 refine qac (fun t=>t==4) mixed tOk Tryz.func32 rfl rfl ?_
 conv=>whnf
 refine qab (qjw (.mk hv.1 (by omega)) (.mk hv.2 (by omega))) ?_
 conv=>whnf
 refine qg0 hm (by simp only [qaJ];rfl) ?_
 conv=>whnf
 refine qad (by kernel_rfl) ?_
 conv=>whnf
 refine ⟨?_, ?_,trivial⟩
 ·conv=>whnf
  exact ⟨rfl,rfl,trivial⟩
 ·conv=>whnf
theorem qBm(w:Ws)(l:List Ob):Fun Tryz.prog 78 [wsD w,.l (oL l)] [wsD {w with l:=l}] :=by
 refine qac (fun t=>t==4) mixed tOk Tryz.func78 rfl rfl ?_
 conv=>whnf
 refine ⟨?_,trivial⟩
 conv=>whnf
 exact ⟨rfl,rfl,rfl,rfl,rfl,rfl,rfl,rfl,rfl,rfl,rfl,rfl,rfl,trivial⟩
theorem qs8(w:Ws)(hl:w.l.length<=1000):qps Tryz.prog 80 [wsD w] 45 3 (oL w.l):=by
 have hll:(oL w.l).length=w.l.length:=by simp
 refine qiU (fun t=>false) mixed tOk Tryz.func80 rfl rfl ?_
 conv=>whnf
 refine qak (by simp only [maxLen];omega) ?_
 conv=>whnf
 refine qaB (by simp only [Bool.and_eq_true,decide_eq_true_eq,qbN];exact ⟨fun x hx=>by rw [List.eq_of_mem_replicate hx];rfl,qbS _,by rw [List.length_replicate];omega⟩) ?_
 conv=>whnf
 exact ⟨rfl,rfl,rfl,rfl⟩
end Go.Nv
end
section
namespace Go.Nv
open Go.Proofs Nw
section
variable {x0 y0 x1 y1:Rat}
end
end Go.Nv
end
section
namespace Go.Nv
open Go.Proofs Nw
end Go.Nv
end
