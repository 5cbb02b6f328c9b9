import Derived.Laws.Strings
import Derived.Test.YtlmmifgminkdkaaGreatNxD1
import Derived.Test.YtlmmifgminkdkaaGreatNxC1
set_option linter.all false
set_option maxRecDepth 100000
section
namespace Go.Nv
open Go.Proofs Nw
theorem qsH(l:List P2):rL (l.map cP)=pL l:=by
 unfold rL pL
 rw [List.map_map]
 exact List.map_congr_left fun p _=>qzh p
theorem qqx(l:List P2):(l.map cP).all okR=true:=by
 rw [List.all_eq_true];intro p hp
 obtain ⟨q,_,rfl⟩:=List.mem_map.1 hp
 exact qz1 q
theorem qmN(l:List P2):(l.map cP).map vP=l:=by
 rw [List.map_map]
 conv=>rhs;rw [<-List.map_id l]
 exact List.map_congr_left fun p _=>qpt p
theorem qs2(l:List P2){n:Nat}(hl: ∀p∈l,BP n p)(hn:n<1000000)(hlen:l.length<=100000):Fun Tryz.prog 137 [.l (pL l)] [i64 (rgE l)] :=by
 have h:=qiV (l.map cP) (n:=n) (fun p hp=>by obtain ⟨q,hq,rfl⟩:=List.mem_map.1 hp;exact (hl q hq).szp (by omega))
  (fun p hp=>by obtain ⟨q,hq,rfl⟩:=List.mem_map.1 hp;rw [qpt];exact hl q hq) hn (by rw [List.length_map];exact hlen)
 rw [qsH] at h
 have e:rgR (l.map cP)=rgE l:=by
  unfold rgR
  rw [List.length_map,if_pos (qqx l),qmN]
  split
  ·rename_i hh;unfold rgE;rw [if_pos hh]
  ·rfl
 rwa [e] at h
theorem qnD(l:List P2){n:Nat}(hl: ∀p∈l,BP n p)(hn:n<1000000)(hlen:l.length<=100000):Fun Tryz.prog 187 [.l (pL l)] [.v (.bool true)] :=by
 have h:=qnK (l.map cP) (by rw [List.length_map];omega) (fun p hp=>by obtain ⟨q,hq,rfl⟩:=List.mem_map.1 hp;exact (hl q hq).szp (by omega))
 rw [qsH,qqx] at h
 exact h
@[irreducible] def onB(l:List P2)(p:P2):Bool:=(cyc l).any fun e=>qox e.1 e.2 p
@[irreducible] def inV(l:List P2)(p:P2):Int:=if rgE l≠0 then 0 else if onB l p=true then 0 else if odB l p=true then 1 else-1
@[irreducible] def inE(l:List P2):Int:=if rgE l≠0 then 1 else 0
noncomputable def qzp(l:List P2)(p:P2)(i:Nat):St:=
 ⟨fr 25 [(0,.own 2 0),(1,.d (.p 0 [.l (pL l)])),(5,.d (.l (pL l))),(6,.d (i64 (pL l).length)),(7,.d (i64 i))],
  [.box 3 [.d (i64 0)],.box 35 [.d (i64 0)],
  .loop .ready none #[19,20] (rfO Tryz.f175.body).1 (rfO Tryz.f175.body).2 (fr 28 [(0,.d (.l (pL l))),(3,.d (.p 0 (pD p).cells)),(4,.ptr 0 0 0),(5,.ptr 1 0 0)])]⟩
theorem qhM(l:List P2)(p:P2){n:Nat}(hl: ∀p∈l,BP n p)(hp:BP n p)(hn:n<1000000)(hlen:l.length<=100000):Fun Tryz.prog 175 [.l (pL l),pD p] [i64 (inV l p),i64 (inE l)] :=by
 have qp:=hp.q (by omega)
 refine qad (fun t=>t==4||t==5||t==6||t==7) mixed tOk Tryz.func175 rfl rfl ?_
 conv=>whnf
 refine qaa rfl rfl (qs2 l hl hn hlen) ?_
 conv=>whnf
 refine qav (fun h=> ?_) (fun h=> ?_)
 ·rw [show inV l p=0 by unfold inV;rw [if_pos h],show inE l=1 by unfold inE;rw [if_pos h]]
  conv=>whnf
  refine ⟨?_, ?_,trivial⟩
  ·conv=>whnf
  ·conv=>whnf
 conv=>whnf
 refine qaa rfl rfl (qnD [p] (n:=n) (fun q hq=>by rw [List.mem_singleton.1 hq];exact hp) hn (by simp)) ?_
 conv=>whnf
 have e1:inE l=0:=by unfold inE;rw [if_neg (fun hh=>hh h)]
 have e2:inV l p=if onB l p=true then 0 else if odB l p=true then 1 else-1:=by unfold inV;rw [if_neg (fun hh=>hh h)]
 rw [e1,e2]
 refine qaa rfl rfl (qgV l) ?_
 conv=>whnf
 refine qbV (g:=172) (cap:= [.d (.p 0 [.l (pL l)])]) (fun t=>t==4||t==5||t==6||t==7) mixed tOk rfl rfl rfl rfl rfl ?_
 conv=>whnf
 refine qbX (fun t=>t==4||t==5||t==6||t==7) (fun i:Nat=>qzp l p i) (fun i=>i<=l.length/\((cyc l).take i).any (fun e=>qox e.1 e.2 p)=false) (fun i=>l.length-i) 0 mixed tOk ⟨by omega,rfl⟩ ?_ ?_
 ·refine qbD ?_ ?_<;>repeat' (first|exact trivial|exact rfl|apply And.intro)
 ·rintro i ⟨hi,hno⟩
  conv=>whnf
  refine qaf (fun hlt=> ?_) (fun hge=> ?_)
  ·have hlt':i<l.length:=by rw [qcb] at hlt;omega
   have hm:=qb1 hlt'
   conv=>whnf
   refine qae (pD l[i]) (qfm hlt') (by omega) (qaz l) ?_
   conv=>whnf
   refine qd6 10 _ (fun t=>t==4||t==5||t==6||t==7) (.tmp 12) [.tmp 13,.tmp 21] mixed tOk rfl rfl ⟨_,rfl⟩ (by kernel_rfl) ?_
   conv=>whnf
   refine qak (by omega) ?_
   conv=>whnf
   refine qak (by omega) ?_
   conv=>whnf
   refine qae (pD (l[(i+1)%l.length]'hm)) (qj8 hlt') (qpT _ _) (qaz l) ?_
   conv=>whnf
   refine qac (by kernel_rfl) ?_
   conv=>whnf
   refine qbI (fun t=>t==4||t==5||t==6||t==7) mixed tOk rfl rfl rfl ?_
   conv=>whnf
   have b1:=hl l[i] (List.getElem_mem _)
   have b2:=hl (l[(i+1)%l.length]'hm) (List.getElem_mem _)
   have hcy:=qc3 hlt'
   have hmem:(l[i],l[(i+1)%l.length]'hm)∈cyc l:=by rw [<-qhH hlt'];exact List.getElem_mem _
   generalize l[i] =a at*
   generalize l[(i+1)%l.length]'hm=b at*
   refine qaa rfl rfl (qpl b1.1 b1.2 b2.1 b2.2 hp.1 hp.2 (by omega)) ?_
   conv=>whnf
   refine qal (fun c1=> ?_) (fun c1=> ?_)
   ·have hon:onB l p=true:=by unfold onB;exact List.any_eq_true.2 ⟨_,hmem,c1⟩
    rw [if_pos hon]
    conv=>whnf
    refine qac (by kernel_rfl) ?_
    conv=>whnf
    refine ⟨?_, ?_,trivial⟩
    ·conv=>whnf
    ·conv=>whnf
   ·conv=>whnf
    refine qac (by kernel_rfl) ?_
    conv=>whnf
    refine qak (by omega) ?_
    conv=>whnf
    refine ⟨i+1,⟨by omega, ?_⟩,by omega, ?_⟩
    ·rw [hcy,List.any_append,hno];simp;exact c1
    unfold qzp
    rw [Int.natCast_succ]
    refine qaj 3 rfl (qaj 4 rfl (qaj 5 rfl (qaj 6 rfl ?_)))
    refine qbD ?_ ?_<;>repeat' (first|exact trivial|exact rfl|apply And.intro)
  ·have:i=l.length:=by rw [qcb] at hge;omega
   subst this
   rw [List.take_of_length_le (by rw [qbm];omega)] at hno
   have hon:onB l p=false:=by unfold onB;exact hno
   rw [hon]
   rw [if_neg (show¬false=true by decide)]
   conv=>whnf
   refine qaa rfl rfl (qEt l p hl hp (by omega) hlen) ?_
   conv=>whnf
   refine qal (fun c1=> ?_) (fun c1=> ?_)
   ·rw [if_pos c1]
    conv=>whnf
    refine ⟨?_, ?_,trivial⟩
    ·conv=>whnf
    ·conv=>whnf
   ·rw [if_neg (by rw [c1];decide)]
    conv=>whnf
    refine ⟨?_, ?_,trivial⟩
    ·conv=>whnf
    ·conv=>whnf
@[irreducible] def mtR(a b:List P2):Bool:=(cyc a).any fun e=>(cyc b).any fun f=>mtB e.1 e.2 f.1 f.2
def qEF(a b:List P2)(i:Nat):St:=⟨fr 36 [(1,.d (.l (pL b))),(13,.d (.l (eL (cyc a)))),(14,.d (i64 (eL (cyc a)).length)),(15,.d (i64 i))], []⟩
def qxX(a b:List P2)(i k:Nat):St:=⟨fr 36 [(1,.d (.l (pL b))),(6,.ptr 0 0 0),(13,.d (.l (eL (cyc a)))),(14,.d (i64 (eL (cyc a)).length)),(15,.d (i64 i)),(20,.d (.l (eL (cyc b)))),(21,.d (i64 (eL (cyc b)).length)),(22,.d (i64 k))],
 [.box 214 ((sD (ed a i).1 (ed a i).2).cells.map .d)]⟩
theorem qjX{l:List P2}{i:Nat}(h:i<l.length):ed l i∈cyc l:=by
 have e:(cyc l)[i]'(by rw [qbm];exact h)=ed l i:=by
  rw [qhH h];unfold ed;rw [qqv h,qgw (show 0<l.length by omega)]
 rw [<-e];exact List.getElem_mem _
theorem qiJ{l:List P2}{e:P2×P2}(h:e∈cyc l): ∃i,i<l.length/\e=ed l i:=by
 obtain ⟨i,hi,rfl⟩:=List.getElem_of_mem h
 rw [qbm] at hi
 refine ⟨i,hi, ?_⟩
 rw [qhH hi];unfold ed;rw [qqv hi,qgw (show 0<l.length by omega)]
theorem qqq(a b:List P2){n:Nat}(ha: ∀p∈a,BP n p)(hb: ∀p∈b,BP n p)(hn:n<10000000)(hla:a.length<=100000)(hlb:b.length<=100000):Fun Tryz.prog 191 [.l (pL a),.l (pL b)] [.v (.bool (mtR a b))] :=by
 have hlx:(eL (cyc a)).length=a.length:=by simp [qbm]
 have hly:(eL (cyc b)).length=b.length:=by simp [qbm]
 refine qad (fun t=>t==6||t==8||t==9) mixed tOk Tryz.func191 rfl rfl ?_
 conv=>whnf
 refine qaa rfl rfl (qlO a hla) ?_
 conv=>whnf
 refine qah (fun t=>t==6||t==8||t==9) (fun i:Nat=>qEF a b i) (fun i=>i<=a.length/\ ∀j k,j<i->k<b.length->mtB (ed a j).1 (ed a j).2 (ed b k).1 (ed b k).2=false) (fun i=>a.length-i) 0 mixed tOk ⟨by omega,fun j k hj=>by omega⟩ ?_ ?_
 ·refine qag ?_ ?_<;>repeat' (first|exact trivial|exact rfl|apply And.intro)
 ·rintro i ⟨hi,hno⟩
  conv=>whnf
  refine qaf (fun hlt=> ?_) (fun hge=> ?_)
  ·have hlt':i<a.length:=by omega
   conv=>whnf
   refine qae (sD (ed a i).1 (ed a i).2) (qgj hlt') (by omega) (qeF _) ?_
   conv=>whnf
   refine qaa rfl rfl (qlO b hlb) ?_
   conv=>whnf
   refine qah (fun t=>t==6||t==8||t==9) (fun k:Nat=>qxX a b i k) (fun k=>k<=b.length/\ ∀j,j<k->mtB (ed a i).1 (ed a i).2 (ed b j).1 (ed b j).2=false) (fun k=>b.length-k) 0 mixed tOk ⟨by omega,fun j hj=>by omega⟩ ?_ ?_
   ·refine qag ?_ ?_<;>repeat' (first|exact trivial|exact rfl|apply And.intro)
   ·rintro k ⟨hk,hnok⟩
    conv=>whnf
    refine qaf (fun hlt2=> ?_) (fun hge2=> ?_)
    ·have hlt2':k<b.length:=by omega
     have h1:=qgz ha (show 0<a.length by omega) i
     have h2:=qgz hb (show 0<b.length by omega) k
     conv=>whnf
     refine qae (sD (ed b k).1 (ed b k).2) (qgj hlt2') (by omega) (qeF _) ?_
     conv=>whnf
     refine qaa rfl rfl (qlE h1.1 h1.2 h2.1 h2.2 (by omega)) ?_
     conv=>whnf
     refine qal (fun c3=> ?_) (fun c3=> ?_)
     ·have hx:mtR a b=true:=by unfold mtR;exact List.any_eq_true.2 ⟨_,qjX hlt',List.any_eq_true.2 ⟨_,qjX hlt2',c3⟩⟩
      rw [hx]
      conv=>whnf
      exact ⟨rfl,trivial⟩
     ·conv=>whnf
      refine qak (by omega) ?_
      conv=>whnf
      refine ⟨k+1,⟨by omega,fun j hj=> ?_⟩,by omega, ?_⟩
      ·by_cases hjk:j=k
       ·subst hjk;exact c3
       ·exact hnok j (by omega)
      unfold qxX;rw [Int.natCast_succ]
      refine qaj 1 rfl (qaj 2 rfl ?_)
      refine qag ?_ ?_<;>repeat' (first|exact trivial|exact rfl|apply And.intro)
    ·conv=>whnf
     refine qak (by omega) ?_
     conv=>whnf
     refine ⟨i+1,⟨by omega,fun j k' hj hk'=> ?_⟩,by omega, ?_⟩
     ·by_cases hji:j=i
      ·subst hji;exact hnok k' (by omega)
      ·exact hno j k' (by omega) hk'
     unfold qEF;rw [Int.natCast_succ]
     refine qaj 0 rfl ?_
     refine qag ?_ ?_<;>repeat' (first|exact trivial|exact rfl|apply And.intro)
  ·have:i=a.length:=by omega
   subst this
   have hx:mtR a b=false:=by
    unfold mtR
    rw [List.any_eq_false];intro e he
    rw [Bool.not_eq_true,List.any_eq_false];intro f hf
    obtain ⟨j,hj,rfl⟩:=qiJ he
    obtain ⟨k,hk,rfl⟩:=qiJ hf
    rw [hno j k hj hk];decide
   rw [hx]
   conv=>whnf
   exact ⟨rfl,trivial⟩
@[irreducible] def wiB(a b:List P2):Bool:=decide (inE b=0)&&decide (0<inV b (ix a 0))
theorem qhz(a b:List P2){n:Nat}(ha: ∀p∈a,BP n p)(hb: ∀p∈b,BP n p)(hn:n<1000000)(h0:0<a.length)(hlb:b.length<=100000):Fun Tryz.prog 193 [.l (pL a),.l (pL b)] [.v (.bool (wiB a b))] :=by
 refine qad (fun t=>false) mixed tOk Tryz.func193 rfl rfl ?_
 conv=>whnf
 refine qae (pD (ix a 0)) (qdq h0) (by omega) (qaz _) ?_
 conv=>whnf
 refine qaa rfl rfl (qhM b (ix a 0) hb (ha _ (qbf h0)) hn hlb) ?_
 conv=>whnf
 refine qa9 (fun h1=> ?_) (fun h1=> ?_)
 ·conv=>whnf
  refine ⟨?_,trivial⟩
  conv=>whnf
  rw [qaH]
  unfold wiB;rw [decide_eq_true h1];rfl
 ·conv=>whnf
  refine ⟨?_,trivial⟩
  conv=>whnf
  unfold wiB;rw [decide_eq_false h1];rfl
theorem qvX(h x:List P2){n:Nat}(ha: ∀p∈h,BP n p)(hb: ∀p∈x,BP n p)(hn:n<1000000)(hla:h.length<=100000)(hlb:x.length<=100000):
  Fun Tryz.prog 192 [.l (pL x),.p 0 [.l (pL h)]] [.v (.bool (mtR h x))] :=by
 refine qad (fun t=>false) mixed tOk Tryz.func192 rfl rfl ?_
 conv=>whnf
 refine qaa rfl rfl (qqq h x ha hb (by omega) hla hlb) ?_
 conv=>whnf
 refine ⟨?_,trivial⟩
 conv=>whnf
theorem qw3(h x:List P2){n:Nat}(ha: ∀p∈h,BP n p)(hb: ∀p∈x,BP n p)(hn:n<1000000)(h0:0<h.length)(x0:0<x.length)(hla:h.length<=100000)(hlb:x.length<=100000):
  Fun Tryz.prog 194 [.l (pL x),.p 0 [.l (pL h)]] [.v (.bool (wiB h x||wiB x h))] :=by
 refine qad (fun t=>false) mixed tOk Tryz.func194 rfl rfl ?_
 conv=>whnf
 refine qaa rfl rfl (qhz h x ha hb hn h0 hlb) ?_
 conv=>whnf
 refine qal (fun h1=> ?_) (fun h1=> ?_)
 ·conv=>whnf
  refine ⟨?_,trivial⟩
  conv=>whnf
  rw [h1];rfl
 ·conv=>whnf
  refine qaa rfl rfl (qhz x h hb ha hn x0 hla) ?_
  conv=>whnf
  refine ⟨?_,trivial⟩
  conv=>whnf
  rw [h1];rfl
abbrev hQ(ls:List (List P2)):List D:=ls.map fun l=> .l (pL l)
theorem qeL(ls:List (List P2)):Uni 1 (hQ ls):=by
 intro x hx
 obtain ⟨p,_,rfl⟩:=List.mem_map.1 hx
 rfl
theorem qgy{l:List (List P2)}{i:Nat}(h:i<l.length):(hQ l)[(i:Int).toNat]? =some (.l (pL l[i])):=by simp [h]
theorem qyp{f:FuncId}{cap:List D}(g:List P2->Bool)(l:List (List P2))(hl:l.length<1000000000)(h: ∀p∈l,Fun Tryz.prog f ([.l (pL p)] ++cap) [.v (.bool (g p))]):
  Fun Tryz.prog 215 [.l (hQ l),.f f cap] [i64 (qef g l)] :=by
 have hll:(hQ l).length=l.length:=by simp
 refine qad (fun t=>false) mixed tOk Tryz.func215 rfl rfl ?_
 conv=>whnf
 refine qah (fun t=>false) (fun i:Nat=>⟨fr 19 [(0,.d (.l (hQ l))),(1,.d (.f f cap)),(7,.d (i64 (hQ l).length)),(8,.d (i64 i))], []⟩) (fun i=>i<=l.length/\ ∀j (hj:j<i) (hjl:j<l.length),g l[j] =false) (fun i=>l.length-i) 0 mixed tOk ⟨by omega,fun j hj=>by omega⟩ ?_ ?_
 ·refine qag ?_ ?_<;>repeat' (first|exact trivial|exact rfl|apply And.intro)
 ·rintro i ⟨hi,hno⟩
  conv=>whnf
  refine qaf (fun hlt=> ?_) (fun hge=> ?_)
  ·have hlt':i<l.length:=by omega
   conv=>whnf
   refine qae (.l (pL l[i])) (qgy hlt') (by omega) (qeL l) ?_
   conv=>whnf
   refine qaa rfl rfl (h l[i] (List.getElem_mem _)) ?_
   conv=>whnf
   refine qal (fun h1=> ?_) (fun h1=> ?_)
   ·rw [qeQ hlt' (fun j hj=>hno j hj (by omega)) h1]
    conv=>whnf
    exact ⟨rfl,trivial⟩
   ·conv=>whnf
    refine qak (by omega) ?_
    conv=>whnf
    refine ⟨i+1,⟨by omega,fun j hj hjl=> ?_⟩,by omega, ?_⟩
    ·by_cases hji:j=i
     ·subst hji;exact h1
     ·exact hno j (by omega) hjl
    rw [Int.natCast_succ]
    refine qag ?_ ?_<;>repeat' (first|exact trivial|exact rfl|apply And.intro)
  ·have:i=l.length:=by omega
   subst this
   rw [qge (fun j hj=>hno j hj hj)]
   conv=>whnf
   exact ⟨rfl,trivial⟩
theorem qhl{f:FuncId}{cap:List D}(g:List P2->Bool)(l:List (List P2))(hl:l.length<1000000000)(h: ∀p∈l,Fun Tryz.prog f ([.l (pL p)] ++cap) [.v (.bool (g p))]):
  Fun Tryz.prog 148 [.l (hQ l),.f f cap] [.v (.bool (l.any g))] :=by
 refine qad (fun t=>false) mixed tOk Tryz.func148 rfl rfl ?_
 conv=>whnf
 refine qaa rfl rfl (qyp g l hl h) ?_
 conv=>whnf
 refine ⟨?_,trivial⟩
 conv=>whnf
 rw [qaH, <-qfJ]
abbrev hR(hs:List (List (RD×RD))):List D:=hs.map fun h=> .l (rL h)
abbrev pgR(o:List (RD×RD))(hs:List (List (RD×RD))):D:= .a [.l (rL o),.l (hR hs)]
theorem qdl(ls:List (List (RD×RD))):Uni 1 (hR ls):=by
 intro x hx
 obtain ⟨p,_,rfl⟩:=List.mem_map.1 hx
 rfl
theorem qix{l:List (List (RD×RD))}{i:Nat}(h:i<l.length):(hR l)[(i:Int).toNat]? =some (.l (rL l[i])):=by simp [h]
theorem quk{ls:List (List (RD×RD))}(h: ∀l∈ls,l.all okR=true):hR ls=hQ (ls.map (List.map vP)):=by
 unfold hR hQ
 rw [List.map_map]
 refine List.map_congr_left fun l hl=> ?_
 show D.l (rL l)=D.l (pL (l.map vP))
 rw [qfu (h l hl)]
theorem qbx{l:List (RD×RD)}(h:rgR l=0):l.all okR=true/\rgE (l.map vP)=0/\3<=l.length/\l.length<=64:=by
 unfold rgR at h
 split at h
 ·exact absurd h (by decide)
 ·rename_i h1
  split at h
  ·rename_i h2;exact ⟨h2,h,by omega,by omega⟩
  ·exact absurd h (by decide)
@[irreducible] def hoE(o:List P2)(pre:List (List P2))(h:List P2):Int:=
 if mtR h o=true\/pre.any (fun x=>mtR h x)=true then 13
 else if wiB h o=false then 14
 else if pre.any (fun x=>wiB h x||wiB x h)=true then 22
 else if 0<pre.length/\0<=cmP (ix (pre.getD (pre.length-1) []) 0) (ix h 0) then 8
 else 0
theorem qvy(o:List (RD×RD))(hs:List (List (RD×RD)))(i:Nat)(hi:i<hs.length){n:Nat}(hn:n<1000000)(hlen:hs.length<=100000)
  (ho:rgR o=0) (hob: ∀p∈o,BP n (vP p)) (hpre: ∀h∈hs.take i,rgR h=0) (hb: ∀h∈hs,∀p∈h,BP n (vP p)/\SzP p) (hlb: ∀h∈hs,h.length<=100000):
  Fun Tryz.prog 138 [pgR o hs,i64 i] [i64 (if rgR hs[i] ≠0 then rgR hs[i] else hoE (o.map vP) ((hs.take i).map (List.map vP)) (hs[i].map vP))] :=by
 have hll:(hR hs).length=hs.length:=by simp
 have hmem:hs[i] ∈hs:=List.getElem_mem _
 obtain ⟨o1,o2,o3,o4⟩:=qbx ho
 have oq: ∀p∈o.map vP,BP n p:=fun p hp=>by obtain ⟨q,hq,rfl⟩:=List.mem_map.1 hp;exact hob q hq
 have ol:(o.map vP).length=o.length:=List.length_map ..
 have esub:qcr (hR hs) (Int.toNat 0) ((i:Nat):Int).toNat=hQ ((hs.take i).map (List.map vP)):=by
  rw [<-quk (fun l hl=>(qbx (hpre l hl)).1)]
  simp [qcr,hR,List.map_take]
 have pq: ∀x∈(hs.take i).map (List.map vP),(∀p∈x,BP n p)/\0<x.length/\x.length<=100000:=fun x hx=>by
  obtain ⟨q,hq,rfl⟩:=List.mem_map.1 hx
  have h1:=qbx (hpre q hq)
  have hl1:(q.map vP).length=q.length:=List.length_map ..
  exact ⟨fun p hp=>by obtain ⟨r,hr,rfl⟩:=List.mem_map.1 hp;exact (hb q (List.mem_of_mem_take hq) r hr).1,by omega,by omega⟩
 have plen:((hs.take i).map (List.map vP)).length=i:=by rw [List.length_map,List.length_take];omega
 generalize (hs.take i).map (List.map vP)=pre at*
 have hget:=qix hi
 have hhb:=hb _ hmem
 have hhl:=hlb _ hmem
 generalize hs[i] =h at*
 rw [show pgR o hs= .a [.l (pL (o.map vP)),.l (hR hs)] by unfold pgR;rw [qfu o1]]
 generalize o.map vP=o' at*
 refine qad (fun t=>t==5) mixed tOk Tryz.func138 rfl rfl ?_
 conv=>whnf
 refine qae (.l (rL h)) hget (by omega) (qdl _) ?_
 conv=>whnf
 refine qa0 (by simp;omega) (qdl _) ?_
 conv=>whnf
 refine qac (by kernel_rfl) ?_
 conv=>whnf
 have hSz: ∀p∈h,SzP p:=fun p hp=>(hhb p hp).2
 have hBp: ∀p∈h,BP n (vP p):=fun p hp=>(hhb p hp).1
 refine qaa rfl rfl (qiV h hSz hBp hn hhl) ?_
 conv=>whnf
 refine qav (fun c1=> ?_) (fun c1=> ?_)
 ·rw [if_pos c1]
  conv=>whnf
  exact ⟨rfl,trivial⟩
 rw [if_neg (fun hh=>hh c1)]
 obtain ⟨k1,k2,k3,k4⟩:=qbx c1
 have hq: ∀p∈h.map vP,BP n p:=fun p hp=>by obtain ⟨r,hr,rfl⟩:=List.mem_map.1 hp;exact hBp r hr
 have hvl:(h.map vP).length=h.length:=List.length_map ..
 rw [qfu k1]
 generalize h.map vP=h' at*
 rw [esub]
 conv=>whnf
 refine qaa rfl rfl (qqq h' o' hq oq (by omega) (by omega) (by omega)) ?_
 conv=>whnf
 refine qal (fun c2=> ?_) (fun c2=> ?_)
 ·have e:hoE o' pre h'=13:=by unfold hoE;rw [if_pos (.inl c2)]
  rw [e]
  conv=>whnf
  exact ⟨rfl,trivial⟩
 conv=>whnf
 refine qkt rfl rfl (qhl (fun x=>mtR h' x) pre (by omega) (fun x hx=>qvX h' x hq (pq x hx).1 hn (by omega) (pq x hx).2.2)) rfl ?_
 refine qal (fun c3=> ?_) (fun c3=> ?_)
 ·have e:hoE o' pre h'=13:=by unfold hoE;rw [if_pos (.inr c3)]
  rw [e]
  conv=>whnf
  exact ⟨rfl,trivial⟩
 refine qaa rfl rfl (qhz h' o' hq oq hn (by omega) (by omega)) ?_
 conv=>whnf
 have n1: ¬(mtR h' o'=true\/pre.any (fun x=>mtR h' x)=true):=by rw [c2,c3];decide
 refine qbu (fun c4=> ?_) (fun c4=> ?_)
 ·have e:hoE o' pre h'=14:=by unfold hoE;rw [if_neg n1,if_pos c4]
  rw [e]
  conv=>whnf
  exact ⟨rfl,trivial⟩
 have n2: ¬wiB h' o'=false:=by rw [c4];decide
 conv=>whnf
 refine qkt rfl rfl (qhl (fun x=>wiB h' x||wiB x h') pre (by omega) (fun x hx=>qw3 h' x hq (pq x hx).1 hn (by omega) (pq x hx).2.1 (by omega) (pq x hx).2.2)) rfl ?_
 conv=>whnf
 refine qal (fun c5=> ?_) (fun c5=> ?_)
 ·have e:hoE o' pre h'=22:=by unfold hoE;rw [if_neg n1,if_neg n2,if_pos c5]
  rw [e]
  conv=>whnf
  exact ⟨rfl,trivial⟩
 have n3: ¬pre.any (fun x=>wiB h' x||wiB x h')=true:=by rw [c5];decide
 have e0:hoE o' pre h'=if 0<pre.length/\0<=cmP (ix (pre.getD (pre.length-1) []) 0) (ix h' 0) then 8 else 0:=by
  unfold hoE;rw [if_neg n1,if_neg n2,if_neg n3]
 rw [e0]
 refine qaf (fun c6=> ?_) (fun c6=> ?_)
 ·have hlt:pre.length-1<pre.length:=by omega
  have eg:pre.getD (pre.length-1) [] =pre[pre.length-1] :=by rw [List.getD_eq_getElem?_getD,List.getElem?_eq_getElem hlt];rfl
  rw [eg]
  have hx:=pq _ (List.getElem_mem hlt)
  have gx:(hQ pre)[((i:Int)-1).toNat]? =some (.l (pL pre[pre.length-1])):=by
   have e:((i:Int)-1)=((pre.length-1:Nat):Int):=by omega
   rw [e];exact qgy hlt
  generalize pre[pre.length-1] =x at*
  conv=>whnf
  refine qak (by omega) ?_
  conv=>whnf
  refine qae (.l (pL x)) gx (by omega) (qeL _) ?_
  conv=>whnf
  refine qae (pD (ix x 0)) (qdq hx.2.1) (by omega) (qaz _) ?_
  conv=>whnf
  refine qae (pD (ix h' 0)) (qdq (show 0<h'.length by omega)) (by omega) (qaz _) ?_
  conv=>whnf
  have q1:=(hx.1 _ (qbf hx.2.1 (k:=0))).q (by omega)
  have q2:=(hq _ (qbf (show 0<h'.length by omega) (k:=0))).q (by omega)
  refine qab (qd2 q1.1 q1.2 q2.1 q2.2) ?_
  conv=>whnf
  refine qac (by kernel_rfl) ?_
  conv=>whnf
  refine qaf (fun c7=> ?_) (fun c7=> ?_)
  ·rw [if_pos ⟨by omega,c7⟩]
   conv=>whnf
   exact ⟨rfl,trivial⟩
  ·rw [if_neg (fun hh=>c7 hh.2)]
   conv=>whnf
   exact ⟨rfl,trivial⟩
 ·rw [if_neg (fun hh=>c6 (by omega))]
  conv=>whnf
  refine qac (by kernel_rfl) ?_
  conv=>whnf
  exact ⟨rfl,trivial⟩
def hoL(o:List P2):List (List P2)->List (List (RD×RD))->Int
 |_, [] =>0
 |pre,h::hs=>if rgR h≠0 then rgR h else if hoE o pre (h.map vP)≠0 then hoE o pre (h.map vP) else hoL o (pre++ [h.map vP]) hs
@[irreducible] def pgE(o:List (RD×RD))(hs:List (List (RD×RD))):Int:=
 if rgR o≠0 then rgR o else if 8<hs.length then 4 else hoL (o.map vP) [] hs
theorem qm5(o:List (RD×RD))(hs:List (List (RD×RD))){n:Nat}(hn:n<1000000)(hlo:o.length<=100000)(hlen:hs.length<=100000)
  (hob: ∀p∈o,BP n (vP p)/\SzP p) (hb: ∀h∈hs,∀p∈h,BP n (vP p)/\SzP p) (hlb: ∀h∈hs,h.length<=100000):
  Fun Tryz.prog 73 [pgR o hs] [i64 (pgE o hs)] :=by
 have hll:(hR hs).length=hs.length:=by simp
 refine qad (fun t=>false) mixed tOk Tryz.func73 rfl rfl ?_
 conv=>whnf
 refine qaa rfl rfl (qiV o (fun p hp=>(hob p hp).2) (fun p hp=>(hob p hp).1) hn hlo) ?_
 conv=>whnf
 refine qav (fun c1=> ?_) (fun c1=> ?_)
 ·have e:pgE o hs=rgR o:=by unfold pgE;rw [if_pos c1]
  rw [e]
  conv=>whnf
  exact ⟨rfl,trivial⟩
 conv=>whnf
 refine qaf (fun c2=> ?_) (fun c2=> ?_)
 ·have e:pgE o hs=4:=by unfold pgE;rw [if_neg (fun hh=>hh c1),if_pos (by omega)]
  rw [e]
  conv=>whnf
  exact ⟨rfl,trivial⟩
 have e0:pgE o hs=hoL (o.map vP) [] hs:=by unfold pgE;rw [if_neg (fun hh=>hh c1),if_neg (by omega)]
 rw [e0]
 conv=>whnf
 refine qah (fun t=>false) (fun i:Nat=>⟨fr 29 [(1,.d (.p 0 [.l (rL o),.l (hR hs)])),(18,.d (i64 (hR hs).length)),(19,.d (i64 i))], []⟩)
  (fun i=>i<=hs.length/\(∀h∈hs.take i,rgR h=0)/\hoL (o.map vP) [] hs=hoL (o.map vP) ((hs.take i).map (List.map vP)) (hs.drop i)) (fun i=>hs.length-i) 0 mixed tOk ⟨by omega,by simp,by simp⟩ ?_ ?_
 ·refine qag ?_ ?_<;>repeat' (first|exact trivial|exact rfl|apply And.intro)
 ·rintro i ⟨hi,hpre,heq⟩
  rw [heq]
  conv=>whnf
  refine qaf (fun hlt=> ?_) (fun hge=> ?_)
  ·have hlt':i<hs.length:=by omega
   rw [List.drop_eq_getElem_cons hlt']
   have hk:=qvy o hs i hlt' hn hlen c1 (fun p hp=>(hob p hp).1) hpre hb hlb
   have htk:hs.take (i+1)=hs.take i++ [hs[i]] :=List.take_succ_eq_append_getElem hlt'
   have hst:rgR hs[i] =0->hoE (o.map vP) ((hs.take i).map (List.map vP)) (hs[i].map vP)=0->hoL (o.map vP) ((hs.take i).map (List.map vP)) (hs[i] ::hs.drop (i+1))=hoL (o.map vP) ((hs.take (i+1)).map (List.map vP)) (hs.drop (i+1)):=fun h1 h2=>by
    rw [hoL,if_neg (fun hh=>hh h1),if_neg (fun hh=>hh h2),htk,List.map_append];rfl
   have hend:(if rgR hs[i] ≠0 then rgR hs[i] else hoE (o.map vP) ((hs.take i).map (List.map vP)) (hs[i].map vP))≠0->hoL (o.map vP) ((hs.take i).map (List.map vP)) (hs[i] ::hs.drop (i+1))=(if rgR hs[i] ≠0 then rgR hs[i] else hoE (o.map vP) ((hs.take i).map (List.map vP)) (hs[i].map vP)):=fun h1=>by
    rw [hoL]
    split
    ·rfl
    ·rename_i h2
     rw [if_neg h2] at h1
     rw [if_pos h1]
   have hze:(if rgR hs[i] ≠0 then rgR hs[i] else hoE (o.map vP) ((hs.take i).map (List.map vP)) (hs[i].map vP))=0->rgR hs[i] =0/\hoE (o.map vP) ((hs.take i).map (List.map vP)) (hs[i].map vP)=0:=fun h1=>by
    split at h1
    ·rename_i h2;exact absurd h1 h2
    ·rename_i h2;exact ⟨Classical.not_not.1 h2,h1⟩
   generalize (if rgR hs[i] ≠0 then rgR hs[i] else hoE (o.map vP) ((hs.take i).map (List.map vP)) (hs[i].map vP))=k at*
   conv=>whnf
   refine qaa rfl rfl hk ?_
   conv=>whnf
   refine qav (fun c3=> ?_) (fun c3=> ?_)
   ·rw [hend c3]
    conv=>whnf
    exact ⟨rfl,trivial⟩
   ·obtain ⟨z1,z2⟩:=hze c3
    rw [hst z1 z2]
    conv=>whnf
    refine qak (by omega) ?_
    conv=>whnf
    refine ⟨i+1,⟨by omega,fun h hh=> ?_, ?_⟩,by omega, ?_⟩
    ·rw [htk] at hh
     rcases List.mem_append.1 hh with hh|hh
     ·exact hpre h hh
     ·rw [List.mem_singleton.1 hh];exact z1
    ·rfl
    rw [Int.natCast_succ]
    refine qag ?_ ?_<;>repeat' (first|exact trivial|exact rfl|apply And.intro)
  ·have:i=hs.length:=by omega
   subst this
   rw [List.drop_length,hoL]
   conv=>whnf
   exact ⟨rfl,trivial⟩
structure Ob where
 nm:ByteArray
 o:List (RD×RD)
 hs:List (List (RD×RD))
abbrev obD(x:Ob):D:= .a [.v (.string x.nm),.l (rL x.o),.l (hR x.hs)]
noncomputable def oL(l:List Ob):List D:=l.map obD
@[simp] theorem quG(l:List Ob):(oL l).length=l.length:=List.length_map ..
theorem qcc(l:List Ob):Uni 3 (oL l):=by
 intro x hx
 obtain ⟨i,_,rfl⟩:=List.mem_map.1 hx
 rfl
theorem qdT{l:List Ob}{i:Nat}(h:i<l.length):(oL l)[(i:Int).toNat]? =some (obD l[i]):=by
 unfold oL;simp [h]
def isN(s:ByteArray)(x:Ob):Bool:=decide (x.nm=s)
theorem qsw(x:Ob)(s:ByteArray):Fun Tryz.prog 139 [obD x,.p 0 [.v (.string s)]] [.v (.bool (isN s x))] :=by
 refine qad (fun t=>false) mixed tOk Tryz.func139 rfl rfl ?_
 conv=>whnf
 refine ⟨?_,trivial⟩
 conv=>whnf
 rw [qaH,isN,qbN]
theorem qvW{f:FuncId}{cap:List D}(g:Ob->Bool)(l:List Ob)(hl:l.length<1000000000000000)(h: ∀p∈l,Fun Tryz.prog f ([obD p] ++cap) [.v (.bool (g p))]):
  Fun Tryz.prog 94 [.l (oL l),.f f cap] [i64 (qef g l)] :=by
 have hll:(oL l).length=l.length:=by simp
 refine qad (fun t=>t==6) mixed tOk Tryz.func94 rfl rfl ?_
 conv=>whnf
 refine qah (fun t=>t==6) (fun i:Nat=>⟨fr 19 [(0,.d (.l (oL l))),(1,.d (.f f cap)),(7,.d (.l (oL l))),(8,.d (i64 (oL l).length)),(9,.d (i64 i))], []⟩) (fun i=>i<=l.length/\ ∀j (hj:j<i) (hjl:j<l.length),g l[j] =false) (fun i=>l.length-i) 0 mixed tOk ⟨by omega,fun j hj=>by omega⟩ ?_ ?_
 ·refine qag ?_ ?_<;>repeat' (first|exact trivial|exact rfl|apply And.intro)
 ·rintro i ⟨hi,hno⟩
  conv=>whnf
  refine qaf (fun hlt=> ?_) (fun hge=> ?_)
  ·have hlt':i<l.length:=by omega
   conv=>whnf
   refine qae (obD l[i]) (qdT hlt') (by omega) (qcc l) ?_
   conv=>whnf
   refine qaa rfl rfl (h l[i] (List.getElem_mem _)) ?_
   conv=>whnf
   refine qal (fun h1=> ?_) (fun h1=> ?_)
   ·rw [qeQ hlt' (fun j hj=>hno j hj (by omega)) h1]
    conv=>whnf
    exact ⟨rfl,trivial⟩
   ·conv=>whnf
    refine qak (by omega) ?_
    conv=>whnf
    refine ⟨i+1,⟨by omega,fun j hj hjl=> ?_⟩,by omega, ?_⟩
    ·by_cases hji:j=i
     ·subst hji;exact h1
     ·exact hno j (by omega) hjl
    rw [Int.natCast_succ]
    refine qaj 0 rfl ?_
    refine qag ?_ ?_<;>repeat' (first|exact trivial|exact rfl|apply And.intro)
  ·have:i=l.length:=by omega
   subst this
   rw [qge (fun j hj=>hno j hj hj)]
   conv=>whnf
   exact ⟨rfl,trivial⟩
theorem qkm(l:List Ob)(s:ByteArray)(hl:l.length<1000000000000000):Fun Tryz.prog 77 [.l (oL l),.v (.string s)] [i64 (qef (isN s) l)] :=by
 refine qad (fun t=>false) mixed tOk Tryz.func77 rfl rfl ?_
 conv=>whnf
 refine qaa rfl rfl (qvW (isN s) l hl (fun p hp=>qsw p s)) ?_
 conv=>whnf
 refine ⟨?_,trivial⟩
 conv=>whnf
theorem qdG(s0:ByteArray):Fun Tryz.prog 319 [.v (.string s0)] [.v (.string (nb (bv s0)))] :=by
 refine qad (fun t=>false) mixed tOk Tryz.func319 rfl rfl ?_
 conv=>whnf
 refine qah (fun t=>false) (fun s:ByteArray=>⟨fr 14 [(0,.d (.v (.string s))),(2,.d (.v (.string ⟨#[]⟩)))], []⟩) (fun s=>bv s=bv s0) (fun s=>s.size) s0 mixed tOk rfl (qa7 trivial ⟨rfl,rfl,trivial⟩) ?_
 intro s hs
 conv=>whnf
 refine qaf (fun h=> ?_) (fun h=> ?_)
 ·conv=>whnf
  have h1:0<s.data.toList.length:=by simpa using h
  rcases s with ⟨⟨l⟩⟩
  cases l with
  |nil=>simp at h1
  |cons x l=>
   have hsz:(ByteArray.mk ⟨x::l⟩).size=l.length+1:=rfl
   have hb:bt (ByteArray.mk ⟨x::l⟩) 0=x.toNat:=by simp [bt,hsz];rfl
   refine qak ⟨by omega,by rw [hsz];omega⟩ ?_
   conv=>whnf
   refine qa9 (fun h2=> ?_) (fun h2=> ?_)
   ·have hx:x=0:=by rw [hb] at h2;exact UInt8.toNat_inj.1 (by simpa using h2)
    conv=>whnf
    refine qak ⟨by omega,by rw [hsz];omega,by omega⟩ ?_
    have he:(ByteArray.mk ⟨x::l⟩).extract 1 (ByteArray.mk ⟨x::l⟩).size=⟨⟨l⟩⟩:=by
     rw [hsz];exact qgl x l _ rfl
    refine ⟨⟨⟨l⟩⟩, ?_, ?_, ?_⟩
    ·rw [<-hs];simp [bv,qem,hx]
    ·rw [hsz];exact Nat.lt_succ_self _
    ·refine qa7 trivial ⟨?_,rfl,trivial⟩
     exact he
   ·have hx:x≠0:=by intro hx;subst hx;exact h2 hb
    conv=>whnf
    refine ⟨?_,trivial⟩
    conv=>whnf
    rw [<-hs]
    show (_:ByteArray)=⟨(nbl (bvl (x::l))).toArray⟩
    rw [qgh x hx]
 ·conv=>whnf
  refine ⟨?_,trivial⟩
  conv=>whnf
  have:s=⟨#[]⟩:=by
   rcases s with ⟨⟨l⟩⟩
   cases l with
   |nil=>rfl
   |cons x l=>exact absurd (by show (0:Int)<((l.length+1:Nat):Int);omega) h
  rw [<-hs,this]
  rfl
theorem qxY(n:Bool)(a:Nat):zD (sg n a)=intD (n&& !(nb a==(⟨#[]⟩:ByteArray))) (nb a):=by
 unfold zD intD
 rw [qw9,qdU]
theorem qcX(n:Bool)(s:ByteArray):Fun Tryz.prog 233 [intD n s] [zD (sg n (bv s))] :=by
 have hf:Fun Tryz.prog 233 [intD n s] [intD (n&& !(nb (bv s)==(⟨#[]⟩:ByteArray))) (nb (bv s))] :=by
  refine qad (fun t=>false) mixed tOk Tryz.func233 rfl rfl ?_
  conv=>whnf
  refine qaf (fun h=> ?_) (fun h=> ?_)
  ·conv=>whnf
   rcases s with ⟨⟨l⟩⟩
   cases l with
   |nil=>exact absurd h (by show¬(0:Int)<((0:Nat):Int);omega)
   |cons x l=>
    have hsz:(ByteArray.mk ⟨x::l⟩).size=l.length+1:=rfl
    have hb:bt (ByteArray.mk ⟨x::l⟩) 0=x.toNat:=by simp [bt,hsz];rfl
    refine qak ⟨by omega,by rw [hsz];omega⟩ ?_
    conv=>whnf
    refine qav (fun h2=> ?_) (fun h2=> ?_)
    ·have hx:x≠0:=by intro hx;subst hx;exact h2 hb
     conv=>whnf
     refine ⟨?_,trivial⟩
     have e:nb (bv ⟨⟨x::l⟩⟩)=⟨⟨x::l⟩⟩:=by
      show (⟨(nbl (bvl (x::l))).toArray⟩:ByteArray)=_
      rw [qgh x hx]
     have e0:(nb (bv ⟨⟨x::l⟩⟩)==(⟨#[]⟩:ByteArray))=false:=by rw [e];rfl
     rw [e0,e]
     conv=>whnf
     refine ⟨?_,rfl,trivial⟩
     conv=>whnf
     simp
    ·conv=>whnf
     refine qaa rfl rfl (qdG _) ?_
     cases n
     ·conv=>whnf
      exact ⟨⟨rfl,rfl,trivial⟩,trivial⟩
     ·conv=>whnf
      refine ⟨⟨?_,rfl,trivial⟩,trivial⟩
      conv=>whnf
      rw [qaH];rfl
  ·conv=>whnf
   refine qaa rfl rfl (qdG _) ?_
   cases n
   ·conv=>whnf
    exact ⟨⟨rfl,rfl,trivial⟩,trivial⟩
   ·conv=>whnf
    refine ⟨⟨?_,rfl,trivial⟩,trivial⟩
    conv=>whnf
    rw [qaH];rfl
 rw [qxY];exact hf
theorem qjq(s:ByteArray)(hs:s.size<=7):Fun Tryz.prog 321 [.v (.string s)] [i64 (bv s)] :=by
 refine qad (fun t=>false) mixed tOk Tryz.func321 rfl rfl ?_
 conv=>whnf
 refine qah (fun t=>false) (fun i:Nat=>⟨fr 19 [(0,.d (.v (.string s))),(2,.d (i64 0)),(3,.d (i64 (pre s i))),(4,.d (i64 i))], []⟩) (fun i=>i<=s.size) (fun i=>s.size-i) 0 mixed tOk (Nat.zero_le _) ?_ ?_
 ·refine qag trivial ⟨rfl,rfl, ?_,rfl,trivial⟩
  conv=>whnf
  rw [qfs];rfl
 ·intro i hi
  conv=>whnf
  refine qaf (fun h2=> ?_) (fun h2=> ?_)<;>conv=>whnf
  ·obtain ⟨p1,p2⟩:=qer s i (by omega)
   have hp:=p54 (s:=s) (i:=i) (by omega) hs
   have h8:=sh8 (pre s i)
   refine qcU (by omega) (by omega) ?_
   conv=>whnf
   refine qak (by omega) ?_
   conv=>whnf
   generalize s.data.toList[i]'_=b at p1 p2
   have hb:=b.toNat_lt
   refine qak (by rw [p1];omega) ?_
   conv=>whnf
   refine qak (by omega) ?_
   conv=>whnf
   refine ⟨i+1,by omega,by omega,qag trivial ⟨rfl,rfl, ?_,rfl,trivial⟩⟩
   conv=>whnf
   rw [p1,p2,h8]
   exact qqJ _ _ (by omega) hp
  ·have hi2:i=s.size:=by omega
   refine ⟨?_,trivial⟩
   conv=>whnf
   rw [hi2,qeY]
theorem qsp(n:Bool)(s:ByteArray)(hs:s.size<=7):Fun Tryz.prog 234 [intD n s] [i64 (sg n (bv s))] :=by
 have hb:=qgR (n:=n) hs
 refine qad (fun t=>false) mixed tOk Tryz.func234 rfl rfl ?_
 conv=>whnf
 cases n
 ·conv=>whnf
  refine qaa rfl rfl (qjq s hs) ?_
  conv=>whnf
  exact ⟨rfl,trivial⟩
 ·conv=>whnf
  refine qaa rfl rfl (qjq s hs) ?_
  conv=>whnf
  refine qak (by simp only [sg] at hb;simp at hb;omega) ?_
  conv=>whnf
  refine ⟨?_,trivial⟩
  conv=>whnf
  simp [sg]
theorem toList_mk(l:List UInt8):(ByteArray.mk ⟨l⟩).toList=l:=ByteArray.toList_eq _
theorem qmw: ∀(x y:List UInt8),x.length=y.length->Op.bytesLess x y=decide (bvl x<bvl y)
 | [], [],_=>by simp [Op.bytesLess]
 |a::x,b::y,h=>by
  have h':x.length=y.length:=by simpa using h
  have ih:=qmw x y h'
  have l1:=qaV x
  have l2:=qaV y
  rw [<-h'] at l2
  rw [qem,qem, <-h']
  show (decide (a<b)||(a==b&&Op.bytesLess x y))=_
  rw [ih]
  generalize 256^x.length=p at*
  rcases Nat.lt_trichotomy a.toNat b.toNat with c|c|c
  ·have e1:a<b:=c
   have:a.toNat*p+p<=b.toNat*p:=by rw [<-Nat.succ_mul];exact Nat.mul_le_mul_right p c
   simp [e1];omega
  ·have e1:a=b:=UInt8.toNat_inj.1 c
   subst e1
   have e2: ¬a<a:=fun hh=>by have:a.toNat<a.toNat:=hh;omega
   simp [e2]
  ·have e1: ¬a<b:=fun hh=>by have:a.toNat<b.toNat:=hh;omega
   have e2:(a==b)=false:=by
    rw [beq_eq_false_iff_ne];intro hh;subst hh;omega
   have:b.toNat*p+p<=a.toNat*p:=by rw [<-Nat.succ_mul];exact Nat.mul_le_mul_right p c
   simp [e1,e2];omega
theorem qvu{a b:Nat}(h:(nb a).size<(nb b).size):a<b:=by
 rw [qdg,qdg] at h
 refine Classical.byContradiction fun hn=> ?_
 have h1:=qaV (nbl a)
 rw [qcs] at h1
 have:=qba (show b<256^(nbl a).length by omega)
 omega
theorem qv4{a b:Nat}(h:(nb a).size=(nb b).size):Op.bytesLess (nb a).toList (nb b).toList=decide (a<b):=by
 rw [qdg,qdg] at h
 have e: ∀n,(nb n).toList=nbl n:=fun n=>toList_mk _
 rw [e,e,qmw _ _ h,qcs,qcs]
theorem qdS(a b:Nat):Fun Tryz.prog 316 [.v (.string (nb a)),.v (.string (nb b))] [i64 (qcA a b)] :=by
 refine qad (fun t=>false) mixed tOk Tryz.func316 rfl rfl ?_
 conv=>whnf
 refine qav (fun h=> ?_) (fun h=> ?_)<;>conv=>whnf
 ·refine qaf (fun h2=> ?_) (fun h2=> ?_)<;>conv=>whnf
  ·have:=qvu (show (nb a).size<(nb b).size by omega)
   refine ⟨?_,trivial⟩
   conv=>whnf
   simp [qcA,this]
  ·have:=qvu (show (nb b).size<(nb a).size by omega)
   refine ⟨?_,trivial⟩
   conv=>whnf
   rw [qcA,if_neg (by omega),if_pos this]
 ·have hs:(nb a).size=(nb b).size:=by omega
  have g1:=qv4 hs
  refine qby (fun h2=> ?_) (fun h2=> ?_)<;>conv=>whnf
  ·rw [g1] at h2
   refine ⟨?_,trivial⟩
   conv=>whnf
   rw [qcA,if_pos (by simpa using h2)]
  ·refine qby (fun h3=> ?_) (fun h3=> ?_)<;>conv=>whnf
   ·rw [g1,qbN] at h3
    rw [g1] at h2
    refine ⟨?_,trivial⟩
    conv=>whnf
    simp at h2 h3
    have:b≠a:=fun hh=>h3.2 (by rw [hh])
    rw [qcA,if_neg (by omega),if_pos (by omega)]
   ·rw [g1,qbN] at h3
    rw [g1] at h2
    refine ⟨?_,trivial⟩
    conv=>whnf
    simp at h2 h3
    have:a=b:=by
     exact qux (h3 (by omega))
    rw [qcA,if_neg (by omega),if_neg (by omega)]
theorem quO(n:Bool)(s:ByteArray):Fun Tryz.prog 230 [intD n s] [zD (-(sg n (bv s)))] :=by
 have e:zD (-(sg n (bv s)))=intD (!(ng (sg n (bv s)))&& !(nb (bv s)==(⟨#[]⟩:ByteArray))) (nb (bv s)):=by
  have:=qxY (!(ng (sg n (bv s)))) (bv s)
  rw [<-this]
  congr 1
  rw [qbo];unfold sg
  cases n<;>by_cases h:bv s=0<;>simp [h]
 have e2:zD (sg n (bv s))=intD (ng (sg n (bv s))) (nb (bv s)):=by
  unfold zD intD;rw [qdU]
 have hc:=qcX n s
 rw [e2] at hc
 rw [e]
 generalize ng (sg n (bv s))=z at*
 cases z
 ·refine qad (fun t=>(t==1)) mixed tOk Tryz.func230 rfl rfl ?_
  conv=>whnf
  refine qaa rfl rfl hc ?_
  conv=>whnf
  refine ⟨⟨?_,rfl,trivial⟩,trivial⟩
  conv=>whnf
  rw [qaH];rfl
 ·refine qad (fun t=>(t==1)) mixed tOk Tryz.func230 rfl rfl ?_
  conv=>whnf
  refine qaa rfl rfl hc ?_
  conv=>whnf
  exact ⟨⟨rfl,rfl,trivial⟩,trivial⟩
theorem fd8(n:Nat):Int.fdiv (n:Int) (2^min ((8:Int).toNat) IntKind.i64.bits)=((n/256:Nat):Int):=by
 have:((2:Int)^min (Int.toNat 8) IntKind.i64.bits)=256:=by decide
 rw [this,Int.fdiv_eq_ediv_of_nonneg _ (by omega)];omega
def u8D(x:Int):S:= .d (.v (.int .u8 x))
def bx8(f:Nat->UInt8):List S:= [u8D (f 0).toNat,u8D (f 1).toNat,u8D (f 2).toNat,u8D (f 3).toNat,u8D (f 4).toNat,u8D (f 5).toNat,u8D (f 6).toNat,u8D (f 7).toNat]
def lx8(f:Nat->UInt8):List D:= [.v (.int .u8 (f 0).toNat),.v (.int .u8 (f 1).toNat),.v (.int .u8 (f 2).toNat),.v (.int .u8 (f 3).toNat),.v (.int .u8 (f 4).toNat),.v (.int .u8 (f 5).toNat),.v (.int .u8 (f 6).toNat),.v (.int .u8 (f 7).toNat)]
theorem qsz(f:Nat->UInt8)(a b:Nat):qgx (qcr (lx8 f) a b)=true:=by
 rw [qcM]
 intro x hx
 have:x∈lx8 f:=by
  unfold qcr at hx
  first|exact List.mem_of_mem_drop (List.mem_of_mem_take hx)|exact List.mem_of_mem_take (List.mem_of_mem_drop hx)
 simp only [lx8,List.mem_cons,List.not_mem_nil,or_false] at this
 rcases this with h|h|h|h|h|h|h|h<;>exact ⟨_,h⟩
theorem qtG(n0:Int)(h0:0<=n0)(h1:n0<=9223372036854775807):Fun Tryz.prog 318 [i64 n0] [.v (.string (nb n0.toNat))] :=by
 refine qad (fun t=>false) mixed tOk Tryz.func318 rfl rfl ?_
 conv=>whnf
 refine qaf (fun h=> ?_) (fun h=> ?_)<;>conv=>whnf
 ·refine qaf (fun h2=> ?_) (fun h2=> ?_)<;>conv=>whnf
  ·refine ⟨?_,trivial⟩
   conv=>whnf
   rw [h2];rfl
  ·refine qaA (by rw [qcM];intro x hx;simp at hx;exact ⟨_,hx⟩) ?_
   conv=>whnf
   refine ⟨?_,trivial⟩
   conv=>whnf
   have e1:nb n0.toNat=⟨#[UInt8.ofNat (n0.toNat%256)]⟩:=by
    show (⟨(nbl n0.toNat).toArray⟩:ByteArray)=_
    rw [qbM (by omega),show n0.toNat/256=0 by omega,qaQ];rfl
   rw [e1]
   have e2:(n0%256).toNat=n0.toNat%256:=by omega
   rw [<-e2];rfl
 ·refine qah (fun t=>false) (fun x:Nat×(Nat->UInt8)×Nat=>⟨fr 26 [(0,.d (i64 (x.1:Int))),(2,.d (.v (.string ⟨#[]⟩))),(3,.ptr 0 0 0),(4,.d (i64 (x.2.2:Int)))], [.box 195 (bx8 x.2.1)]⟩)
   (fun x=>x.2.2<=8/\x.1<=n0.toNat/\x.1<256^x.2.2/\nbl n0.toNat=nbl x.1++(List.range' x.2.2 (8-x.2.2)).map x.2.1)
   (fun x=>x.2.2) (n0.toNat,(fun _=>0),8) mixed tOk ?_ ?_ ?_
  ·refine ⟨Nat.le_refl _,Nat.le_refl _, ?_,by simp⟩
   show n0.toNat<256^8
   have:(256:Nat)^8=18446744073709551616:=rfl
   omega
  ·refine qag ⟨⟨rfl, ?_⟩,trivial⟩ ⟨?_,rfl,rfl,rfl,trivial⟩
   ·exact ⟨rfl,rfl,rfl,rfl,rfl,rfl,rfl,rfl,trivial⟩
   conv=>whnf
   omega
  ·rintro ⟨m,f,i⟩ ⟨i1,i0,i2,i3⟩
   simp only at i0 i1 i2 i3
   have h63:(m:Int)<=9223372036854775807:=by omega
   have i4:m≠0->1<=i:=fun hm=>by
    rcases Nat.eq_zero_or_pos i with rfl|h
    ·simp at i2;omega
    ·exact h
   rcases (show i=0\/i=1\/i=2\/i=3\/i=4\/i=5\/i=6\/i=7\/i=8 by omega) with rfl|rfl|rfl|rfl|rfl|rfl|rfl|rfl|rfl
   ·have m0:m=0:=by simp at i2;omega
    subst m0
    conv=>whnf
    refine qaU (by simp) ?_
    conv=>whnf
    refine qak ⟨by simp only;omega,by simp only;omega,by omega,by unfold maxLen;omega⟩ ?_
    conv=>whnf
    refine qaA (qsz f _ _) ?_
    conv=>whnf
    refine ⟨?_,trivial⟩
    conv=>whnf
    show (_:ByteArray)=⟨(nbl n0.toNat).toArray⟩
    rw [i3,qaQ]
    simp [qf9,qcr,List.range',List.drop]
   ·conv=>whnf
    refine qaf (fun h2=> ?_) (fun h2=> ?_)<;>conv=>whnf
    ·have h3:0<m:=by simp only at h2;omega
     refine qak (by simp only;omega) ?_
     conv=>whnf
     refine qak (by simp only;omega) ?_
     conv=>whnf
     refine qak (by omega) ?_
     conv=>whnf
     refine ⟨(m/256,(fun j=>if j=0 then UInt8.ofNat (m%256) else f j),0),⟨by simp only;omega,by simp only;omega,by simp only;omega, ?_⟩,by simp only;omega, ?_⟩
     ·simp only
      rw [i3,qbM (by omega)]
      simp [List.range']
     ·refine qag ⟨⟨rfl, ?_⟩,trivial⟩ ⟨?_,rfl,rfl,rfl,trivial⟩
      ·refine ⟨?_, ?_, ?_, ?_, ?_, ?_, ?_, ?_,trivial⟩<;>first|rfl|((conv=>whnf)<;>simp)
      ·conv=>whnf
       exact fd8 m
    ·have m0:m=0:=by simp only at h2;omega
     subst m0
     refine qak ⟨by simp only;omega,by simp only;omega,by omega,by unfold maxLen;omega⟩ ?_
     conv=>whnf
     refine qaA (qsz f _ _) ?_
     conv=>whnf
     refine ⟨?_,trivial⟩
     conv=>whnf
     show (_:ByteArray)=⟨(nbl n0.toNat).toArray⟩
     rw [i3,qaQ]
     simp [qf9,qcr,List.range',List.drop]
   ·conv=>whnf
    refine qaf (fun h2=> ?_) (fun h2=> ?_)<;>conv=>whnf
    ·have h3:0<m:=by simp only at h2;omega
     refine qak (by simp only;omega) ?_
     conv=>whnf
     refine qak (by simp only;omega) ?_
     conv=>whnf
     refine qak (by omega) ?_
     conv=>whnf
     refine ⟨(m/256,(fun j=>if j=1 then UInt8.ofNat (m%256) else f j),1),⟨by simp only;omega,by simp only;omega,by simp only;omega, ?_⟩,by simp only;omega, ?_⟩
     ·simp only
      rw [i3,qbM (by omega)]
      simp [List.range']
     ·refine qag ⟨⟨rfl, ?_⟩,trivial⟩ ⟨?_,rfl,rfl,rfl,trivial⟩
      ·refine ⟨?_, ?_, ?_, ?_, ?_, ?_, ?_, ?_,trivial⟩<;>first|rfl|((conv=>whnf)<;>simp)
      ·conv=>whnf
       exact fd8 m
    ·have m0:m=0:=by simp only at h2;omega
     subst m0
     refine qak ⟨by simp only;omega,by simp only;omega,by omega,by unfold maxLen;omega⟩ ?_
     conv=>whnf
     refine qaA (qsz f _ _) ?_
     conv=>whnf
     refine ⟨?_,trivial⟩
     conv=>whnf
     show (_:ByteArray)=⟨(nbl n0.toNat).toArray⟩
     rw [i3,qaQ]
     simp [qf9,qcr,List.range',List.drop]
   ·conv=>whnf
    refine qaf (fun h2=> ?_) (fun h2=> ?_)<;>conv=>whnf
    ·have h3:0<m:=by simp only at h2;omega
     refine qak (by simp only;omega) ?_
     conv=>whnf
     refine qak (by simp only;omega) ?_
     conv=>whnf
     refine qak (by omega) ?_
     conv=>whnf
     refine ⟨(m/256,(fun j=>if j=2 then UInt8.ofNat (m%256) else f j),2),⟨by simp only;omega,by simp only;omega,by simp only;omega, ?_⟩,by simp only;omega, ?_⟩
     ·simp only
      rw [i3,qbM (by omega)]
      simp [List.range']
     ·refine qag ⟨⟨rfl, ?_⟩,trivial⟩ ⟨?_,rfl,rfl,rfl,trivial⟩
      ·refine ⟨?_, ?_, ?_, ?_, ?_, ?_, ?_, ?_,trivial⟩<;>first|rfl|((conv=>whnf)<;>simp)
      ·conv=>whnf
       exact fd8 m
    ·have m0:m=0:=by simp only at h2;omega
     subst m0
     refine qak ⟨by simp only;omega,by simp only;omega,by omega,by unfold maxLen;omega⟩ ?_
     conv=>whnf
     refine qaA (qsz f _ _) ?_
     conv=>whnf
     refine ⟨?_,trivial⟩
     conv=>whnf
     show (_:ByteArray)=⟨(nbl n0.toNat).toArray⟩
     rw [i3,qaQ]
     simp [qf9,qcr,List.range',List.drop]
   ·conv=>whnf
    refine qaf (fun h2=> ?_) (fun h2=> ?_)<;>conv=>whnf
    ·have h3:0<m:=by simp only at h2;omega
     refine qak (by simp only;omega) ?_
     conv=>whnf
     refine qak (by simp only;omega) ?_
     conv=>whnf
     refine qak (by omega) ?_
     conv=>whnf
     refine ⟨(m/256,(fun j=>if j=3 then UInt8.ofNat (m%256) else f j),3),⟨by simp only;omega,by simp only;omega,by simp only;omega, ?_⟩,by simp only;omega, ?_⟩
     ·simp only
      rw [i3,qbM (by omega)]
      simp [List.range']
     ·refine qag ⟨⟨rfl, ?_⟩,trivial⟩ ⟨?_,rfl,rfl,rfl,trivial⟩
      ·refine ⟨?_, ?_, ?_, ?_, ?_, ?_, ?_, ?_,trivial⟩<;>first|rfl|((conv=>whnf)<;>simp)
      ·conv=>whnf
       exact fd8 m
    ·have m0:m=0:=by simp only at h2;omega
     subst m0
     refine qak ⟨by simp only;omega,by simp only;omega,by omega,by unfold maxLen;omega⟩ ?_
     conv=>whnf
     refine qaA (qsz f _ _) ?_
     conv=>whnf
     refine ⟨?_,trivial⟩
     conv=>whnf
     show (_:ByteArray)=⟨(nbl n0.toNat).toArray⟩
     rw [i3,qaQ]
     simp [qf9,qcr,List.range',List.drop]
   ·conv=>whnf
    refine qaf (fun h2=> ?_) (fun h2=> ?_)<;>conv=>whnf
    ·have h3:0<m:=by simp only at h2;omega
     refine qak (by simp only;omega) ?_
     conv=>whnf
     refine qak (by simp only;omega) ?_
     conv=>whnf
     refine qak (by omega) ?_
     conv=>whnf
     refine ⟨(m/256,(fun j=>if j=4 then UInt8.ofNat (m%256) else f j),4),⟨by simp only;omega,by simp only;omega,by simp only;omega, ?_⟩,by simp only;omega, ?_⟩
     ·simp only
      rw [i3,qbM (by omega)]
      simp [List.range']
     ·refine qag ⟨⟨rfl, ?_⟩,trivial⟩ ⟨?_,rfl,rfl,rfl,trivial⟩
      ·refine ⟨?_, ?_, ?_, ?_, ?_, ?_, ?_, ?_,trivial⟩<;>first|rfl|((conv=>whnf)<;>simp)
      ·conv=>whnf
       exact fd8 m
    ·have m0:m=0:=by simp only at h2;omega
     subst m0
     refine qak ⟨by simp only;omega,by simp only;omega,by omega,by unfold maxLen;omega⟩ ?_
     conv=>whnf
     refine qaA (qsz f _ _) ?_
     conv=>whnf
     refine ⟨?_,trivial⟩
     conv=>whnf
     show (_:ByteArray)=⟨(nbl n0.toNat).toArray⟩
     rw [i3,qaQ]
     simp [qf9,qcr,List.range',List.drop]
   ·conv=>whnf
    refine qaf (fun h2=> ?_) (fun h2=> ?_)<;>conv=>whnf
    ·have h3:0<m:=by simp only at h2;omega
     refine qak (by simp only;omega) ?_
     conv=>whnf
     refine qak (by simp only;omega) ?_
     conv=>whnf
     refine qak (by omega) ?_
     conv=>whnf
     refine ⟨(m/256,(fun j=>if j=5 then UInt8.ofNat (m%256) else f j),5),⟨by simp only;omega,by simp only;omega,by simp only;omega, ?_⟩,by simp only;omega, ?_⟩
     ·simp only
      rw [i3,qbM (by omega)]
      simp [List.range']
     ·refine qag ⟨⟨rfl, ?_⟩,trivial⟩ ⟨?_,rfl,rfl,rfl,trivial⟩
      ·refine ⟨?_, ?_, ?_, ?_, ?_, ?_, ?_, ?_,trivial⟩<;>first|rfl|((conv=>whnf)<;>simp)
      ·conv=>whnf
       exact fd8 m
    ·have m0:m=0:=by simp only at h2;omega
     subst m0
     refine qak ⟨by simp only;omega,by simp only;omega,by omega,by unfold maxLen;omega⟩ ?_
     conv=>whnf
     refine qaA (qsz f _ _) ?_
     conv=>whnf
     refine ⟨?_,trivial⟩
     conv=>whnf
     show (_:ByteArray)=⟨(nbl n0.toNat).toArray⟩
     rw [i3,qaQ]
     simp [qf9,qcr,List.range',List.drop]
   ·conv=>whnf
    refine qaf (fun h2=> ?_) (fun h2=> ?_)<;>conv=>whnf
    ·have h3:0<m:=by simp only at h2;omega
     refine qak (by simp only;omega) ?_
     conv=>whnf
     refine qak (by simp only;omega) ?_
     conv=>whnf
     refine qak (by omega) ?_
     conv=>whnf
     refine ⟨(m/256,(fun j=>if j=6 then UInt8.ofNat (m%256) else f j),6),⟨by simp only;omega,by simp only;omega,by simp only;omega, ?_⟩,by simp only;omega, ?_⟩
     ·simp only
      rw [i3,qbM (by omega)]
      simp [List.range']
     ·refine qag ⟨⟨rfl, ?_⟩,trivial⟩ ⟨?_,rfl,rfl,rfl,trivial⟩
      ·refine ⟨?_, ?_, ?_, ?_, ?_, ?_, ?_, ?_,trivial⟩<;>first|rfl|((conv=>whnf)<;>simp)
      ·conv=>whnf
       exact fd8 m
    ·have m0:m=0:=by simp only at h2;omega
     subst m0
     refine qak ⟨by simp only;omega,by simp only;omega,by omega,by unfold maxLen;omega⟩ ?_
     conv=>whnf
     refine qaA (qsz f _ _) ?_
     conv=>whnf
     refine ⟨?_,trivial⟩
     conv=>whnf
     show (_:ByteArray)=⟨(nbl n0.toNat).toArray⟩
     rw [i3,qaQ]
     simp [qf9,qcr,List.range',List.drop]
   ·conv=>whnf
    refine qaf (fun h2=> ?_) (fun h2=> ?_)<;>conv=>whnf
    ·have h3:0<m:=by simp only at h2;omega
     refine qak (by simp only;omega) ?_
     conv=>whnf
     refine qak (by simp only;omega) ?_
     conv=>whnf
     refine qak (by omega) ?_
     conv=>whnf
     refine ⟨(m/256,(fun j=>if j=7 then UInt8.ofNat (m%256) else f j),7),⟨by simp only;omega,by simp only;omega,by simp only;omega, ?_⟩,by simp only;omega, ?_⟩
     ·simp only
      rw [i3,qbM (by omega)]
      simp [List.range']
     ·refine qag ⟨⟨rfl, ?_⟩,trivial⟩ ⟨?_,rfl,rfl,rfl,trivial⟩
      ·refine ⟨?_, ?_, ?_, ?_, ?_, ?_, ?_, ?_,trivial⟩<;>first|rfl|((conv=>whnf)<;>simp)
      ·conv=>whnf
       exact fd8 m
    ·have m0:m=0:=by simp only at h2;omega
     subst m0
     refine qak ⟨by simp only;omega,by simp only;omega,by omega,by unfold maxLen;omega⟩ ?_
     conv=>whnf
     refine qaA (qsz f _ _) ?_
     conv=>whnf
     refine ⟨?_,trivial⟩
     conv=>whnf
     show (_:ByteArray)=⟨(nbl n0.toNat).toArray⟩
     rw [i3,qaQ]
     simp [qf9,qcr,List.range',List.drop]
theorem qrT(n:Int)(h: -9223372036854775808<n/\n<=9223372036854775807):Fun Tryz.prog 229 [i64 n] [zD n] :=by
 have e:zD n=intD (decide (n<0)) (nb n.natAbs):=by unfold zD intD;rw [qbo]
 rw [e]
 refine qad (fun t=>false) mixed tOk Tryz.func229 rfl rfl ?_
 conv=>whnf
 refine qaf (fun h2=> ?_) (fun h2=> ?_)<;>conv=>whnf
 ·refine qaa rfl rfl (qtG n (by omega) (by omega)) ?_
  conv=>whnf
  refine ⟨⟨?_, ?_,trivial⟩,trivial⟩
  ·conv=>whnf
   simp;omega
  ·conv=>whnf
   rw [show n.toNat=n.natAbs by omega]
 ·refine qak (by omega) ?_
  conv=>whnf
  refine qa9 (fun h3=> ?_) (fun h3=> ?_)<;>conv=>whnf
  ·omega
  ·refine qak (by omega) ?_
   conv=>whnf
   refine qaa rfl rfl (qtG (0-n) (by omega) (by omega)) ?_
   conv=>whnf
   refine ⟨⟨?_, ?_,trivial⟩,trivial⟩
   ·conv=>whnf
    simp;omega
   ·conv=>whnf
    rw [show (0-n).toNat=n.natAbs by omega]
end Go.Nv
end
