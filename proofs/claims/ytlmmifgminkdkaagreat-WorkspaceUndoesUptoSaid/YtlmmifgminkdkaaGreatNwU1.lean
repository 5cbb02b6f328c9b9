import Derived.Test.YtlmmifgminkdkaaGreatNwD9
import Derived.Test.YtlmmifgminkdkaaGreatNwD8
import Derived.Test.YtlmmifgminkdkaaGreatNwS1
import Derived.Test.YtlmmifgminkdkaaGreatNwM1
import Derived.Test.YtlmmifgminkdkaaGreatNwD10
import Derived.Test.YtlmmifgminkdkaaGreatNwE1
set_option linter.all false
set_option maxRecDepth 100000
section
namespace Go.Nv
open Go.Proofs Nw
noncomputable instance:DecidableEq Ob:=fun a b=>Classical.propDecidable _
noncomputable instance:DecidableEq Ws:=fun a b=>Classical.propDecidable _
theorem qDY(p q:RD×RD):(!qc1 (List.take qr9.cells (List.drop 0 (pR p).cells)) (List.take qr9.cells (List.drop 0 (pR q).cells)))= !decide (p=q):=by
 have e:qc1 (List.take qr9.cells (List.drop 0 (pR p).cells)) (List.take qr9.cells (List.drop 0 (pR q).cells))=decide (p=q):=by
  refine (qk8 p.1 p.2 q.1 q.2).trans ?_
  rw [decide_eq_decide,Prod.ext_iff]
 rw [e]
theorem qiR{α:Type}{l m:List α}{i:Nat}(hl:i<l.length)(hm:i<m.length)(h:l.take i=m.take i)(e:l[i] =m[i]):l.take (i+1)=m.take (i+1):=by
 rw [List.take_succ_eq_append_getElem hl,List.take_succ_eq_append_getElem hm,h,e]
theorem qm3(l m:List (RD×RD))(hl:l.length<=100000)(hm:m.length<=100000):Fun Tryz.prog 103 [.l (rL l),.l (rL m)] [.v (.bool (decide (l=m)))] :=by
 have hll:(rL l).length=l.length:=by simp
 have hmm:(rL m).length=m.length:=by simp
 refine qac (fun t=>false) mixed tOk Tryz.func103 rfl rfl ?_
 conv=>whnf
 refine qat (fun h=> ?_) (fun h=> ?_)
 ·rw [decide_eq_false (show l≠m from fun e=>h (by rw [e]))]
  conv=>whnf
  refine ⟨?_,trivial⟩
  conv=>whnf
 have hlm:l.length=m.length:=by rw [hll,hmm] at h;omega
 conv=>whnf
 refine qah (fun t=>false) (fun i:Nat=>⟨fr 26 [(0,.d (.l (rL l))),(1,.d (.l (rL m))),(12,.d (i64 (rL l).length)),(13,.d (i64 i))], []⟩) (fun i=>i<=l.length/\l.take i=m.take i) (fun i=>l.length-i) 0 mixed tOk ⟨by omega,rfl⟩ ?_ ?_
 ·refine qag ?_ ?_<;>repeat' (first|exact trivial|exact rfl|apply And.intro)
 ·rintro i ⟨hi,hs⟩
  conv=>whnf
  refine qaf (fun hlt=> ?_) (fun hge=> ?_)
  ·have hlt':i<l.length:=by omega
   have hg:(rL l)[((i:Nat):Int).toNat]? =some (pR l[i]):=qh7 hlt'
   have hg':(rL m)[((i:Nat):Int).toNat]? =some (pR (m[i]'(by omega))):=qh7 (by omega)
   conv=>whnf
   refine qae (pR l[i]) hg (by omega) (qhJ _) ?_
   conv=>whnf
   refine qae (pR (m[i]'(by omega))) hg' (by omega) (qhJ _) ?_
   conv=>whnf
   refine qad (by kernel_rfl) ?_
   conv=>whnf
   refine qbe (fun hq=> ?_) (fun hq=> ?_)
   ·have hq':=(qDY l[i] (m[i]'(by omega))).symm.trans hq
    rw [decide_eq_false (show l≠m from fun e=>by subst e;simp at hq')]
    conv=>whnf
    refine ⟨?_,trivial⟩
    conv=>whnf
   ·have hq':=(qDY l[i] (m[i]'(by omega))).symm.trans hq
    have hq':l[i] =m[i]'(by omega):=by simpa using hq'
    conv=>whnf
    refine qak (by omega) ?_
    conv=>whnf
    refine ⟨i+1,⟨by omega,qiR hlt' (by omega) hs hq'⟩,by omega, ?_⟩
    rw [Int.natCast_succ]
    refine qag ?_ ?_<;>repeat' (first|exact trivial|exact rfl|apply And.intro)
  ·have:i=l.length:=by omega
   subst this
   rw [List.take_length,hlm,List.take_length] at hs
   rw [decide_eq_true hs]
   conv=>whnf
   refine ⟨?_,trivial⟩
   conv=>whnf
theorem qoo(l m:List (List (RD×RD)))(hl:l.length<=100000)(hm:m.length<=100000)(hb: ∀h∈l,h.length<=100000)(hc: ∀h∈m,h.length<=100000):Fun Tryz.prog 102 [.l (hR l),.l (hR m),.f 103 []] [.v (.bool (decide (l=m)))] :=by
 have hll:(hR l).length=l.length:=by simp
 have hmm:(hR m).length=m.length:=by simp
 refine qac (fun t=>false) mixed tOk Tryz.func102 rfl rfl ?_
 conv=>whnf
 refine qat (fun h=> ?_) (fun h=> ?_)
 ·rw [decide_eq_false (show l≠m from fun e=>h (by rw [e]))]
  conv=>whnf
  refine ⟨?_,trivial⟩
  conv=>whnf
 have hlm:l.length=m.length:=by rw [hll,hmm] at h;omega
 conv=>whnf
 refine qah (fun t=>false) (fun i:Nat=>⟨fr 32 [(0,.d (.l (hR l))),(1,.d (.l (hR m))),(2,.d (.f 103 [])),(15,.d (.l (hR l))),(16,.d (i64 (hR l).length)),(17,.d (i64 i))], []⟩) (fun i=>i<=l.length/\l.take i=m.take i) (fun i=>l.length-i) 0 mixed tOk ⟨by omega,rfl⟩ ?_ ?_
 ·refine qag ?_ ?_<;>repeat' (first|exact trivial|exact rfl|apply And.intro)
 ·rintro i ⟨hi,hs⟩
  conv=>whnf
  refine qaf (fun hlt=> ?_) (fun hge=> ?_)
  ·have hlt':i<l.length:=by omega
   have hg:(hR l)[((i:Nat):Int).toNat]? =some (.l (rL l[i])):=qgb hlt'
   have hg':(hR m)[((i:Nat):Int).toNat]? =some (.l (rL (m[i]'(by omega)))):=qgb (by omega)
   conv=>whnf
   refine qae (.l (rL l[i])) hg (by omega) (qcJ _) ?_
   conv=>whnf
   refine qae (.l (rL (m[i]'(by omega)))) hg' (by omega) (qcJ _) ?_
   conv=>whnf
   refine qaa rfl rfl (qm3 l[i] (m[i]'(by omega)) (hb _ (List.getElem_mem _)) (hc _ (List.getElem_mem _))) ?_
   conv=>whnf
   refine qbb (fun hq=> ?_) (fun hq=> ?_)
   ·have hq':l[i] ≠m[i]'(by omega):=by simpa using hq
    rw [decide_eq_false (show l≠m from fun e=>by subst e;exact hq' rfl)]
    conv=>whnf
    refine ⟨?_,trivial⟩
    conv=>whnf
   ·have hq':l[i] =m[i]'(by omega):=by simpa using hq
    conv=>whnf
    refine qak (by omega) ?_
    conv=>whnf
    refine ⟨i+1,⟨by omega,qiR hlt' (by omega) hs hq'⟩,by omega, ?_⟩
    rw [Int.natCast_succ]
    refine qag ?_ ?_<;>repeat' (first|exact trivial|exact rfl|apply And.intro)
  ·have:i=l.length:=by omega
   subst this
   rw [List.take_length,hlm,List.take_length] at hs
   rw [decide_eq_true hs]
   conv=>whnf
   refine ⟨?_,trivial⟩
   conv=>whnf
theorem qqr{n k:Nat}{x y:Ob}(h:SzO n x)(h':SzO k y):Fun Tryz.prog 85 [pgR x.o x.hs,pgR y.o y.hs] [.v (.bool (decide (x.o=y.o/\x.hs=y.hs)))] :=by
 have h1:=h.lo
 have h2:=h.lh
 have h3:=h'.lo
 have h4:=h'.lh
 refine qac (fun t=>false) mixed tOk Tryz.func85 rfl rfl ?_
 conv=>whnf
 refine qaa rfl rfl (qm3 x.o y.o (by omega) (by omega)) ?_
 conv=>whnf
 refine qal (fun q=> ?_) (fun q=> ?_)
 ·have q:=of_decide_eq_true q
  conv=>whnf
  refine qaa rfl rfl (qoo x.hs y.hs (by omega) (by omega) (fun l hl=>by have:=h.ll l hl;omega) (fun l hl=>by have:=h'.ll l hl;omega)) ?_
  conv=>whnf
  refine ⟨?_,trivial⟩
  conv=>whnf
  simp [q]
 ·have q:=of_decide_eq_false q
  conv=>whnf
  refine ⟨?_,trivial⟩
  conv=>whnf
  simp [q]
theorem qtx{x y:Ob}:x=y↔x.nm=y.nm/\x.o=y.o/\x.hs=y.hs:=by
 cases x;cases y;simp
theorem qsk{n k:Nat}{x y:Ob}(h:SzO n x)(h':SzO k y):Fun Tryz.prog 84 [obD x,obD y] [.v (.bool (decide (x=y)))] :=by
 have e:(x.nm==y.nm)=decide (x.nm=y.nm):=qbu _ _
 refine qac (fun t=>false) mixed tOk Tryz.func84 rfl rfl ?_
 conv=>whnf
 refine qbe (fun q=> ?_) (fun q=> ?_)
 ·have q:x.nm=y.nm:=of_decide_eq_true (e.symm.trans q)
  conv=>whnf
  refine qaa rfl rfl (qqr h h') ?_
  conv=>whnf
  refine ⟨?_,trivial⟩
  conv=>whnf
  rw [decide_eq_decide,qtx];simp [q]
 ·have q:x.nm≠y.nm:=of_decide_eq_false (e.symm.trans q)
  conv=>whnf
  refine ⟨?_,trivial⟩
  conv=>whnf
  rw [decide_eq_false];rw [qtx];exact fun h=>q h.1
theorem qrW{n k:Nat}(l m:List Ob)(hl:l.length<=100000)(hm:m.length<=100000)(hx: ∀x∈l,SzO n x)(hx': ∀x∈m,SzO k x):Fun Tryz.prog 83 [.l (oL l),.l (oL m),.f 84 []] [.v (.bool (decide (l=m)))] :=by
 have hll:(oL l).length=l.length:=by simp
 have hmm:(oL m).length=m.length:=by simp
 refine qac (fun t=>t==8||t==9) mixed tOk Tryz.func83 rfl rfl ?_
 conv=>whnf
 refine qat (fun h=> ?_) (fun h=> ?_)
 ·rw [decide_eq_false (show l≠m from fun e=>h (by rw [e]))]
  conv=>whnf
  refine ⟨?_,trivial⟩
  conv=>whnf
 have hlm:l.length=m.length:=by rw [hll,hmm] at h;omega
 conv=>whnf
 refine qah (fun t=>t==8||t==9) (fun i:Nat=>⟨fr 32 [(0,.d (.l (oL l))),(1,.d (.l (oL m))),(2,.d (.f 84 [])),(15,.d (.l (oL l))),(16,.d (i64 (oL l).length)),(17,.d (i64 i))], []⟩) (fun i=>i<=l.length/\l.take i=m.take i) (fun i=>l.length-i) 0 mixed tOk ⟨by omega,rfl⟩ ?_ ?_
 ·refine qag ?_ ?_<;>repeat' (first|exact trivial|exact rfl|apply And.intro)
 ·rintro i ⟨hi,hs⟩
  conv=>whnf
  refine qaf (fun hlt=> ?_) (fun hge=> ?_)
  ·have hlt':i<l.length:=by omega
   have hg:(oL l)[((i:Nat):Int).toNat]? =some (obD l[i]):=qdL hlt'
   have hg':(oL m)[((i:Nat):Int).toNat]? =some (obD (m[i]'(by omega))):=qdL (by omega)
   conv=>whnf
   refine qae (obD l[i]) hg (by omega) (qci _) ?_
   conv=>whnf
   refine qae (obD (m[i]'(by omega))) hg' (by omega) (qci _) ?_
   conv=>whnf
   refine qaa rfl rfl (qsk (hx _ (List.getElem_mem hlt')) (hx' _ (List.getElem_mem (by omega)))) ?_
   conv=>whnf
   refine qbb (fun hq=> ?_) (fun hq=> ?_)
   ·have hq':l[i] ≠m[i]'(by omega):=of_decide_eq_false hq
    rw [decide_eq_false (show l≠m from fun e=>by subst e;exact hq' rfl)]
    conv=>whnf
    refine ⟨?_,trivial⟩
    conv=>whnf
   ·have hq':l[i] =m[i]'(by omega):=of_decide_eq_true hq
    conv=>whnf
    refine qak (by omega) ?_
    conv=>whnf
    refine ⟨i+1,⟨by omega,qiR hlt' (by omega) hs hq'⟩,by omega, ?_⟩
    rw [Int.natCast_succ]
    refine qaj 1 rfl ?_
    refine qaj 0 rfl ?_
    refine qag ?_ ?_<;>repeat' (first|exact trivial|exact rfl|apply And.intro)
  ·have:i=l.length:=by omega
   subst this
   rw [List.take_length,hlm,List.take_length] at hs
   rw [decide_eq_true hs]
   conv=>whnf
   refine ⟨?_,trivial⟩
   conv=>whnf
theorem qpF{x y:Ws}:x=y↔(x.a=y.a/\x.b=y.b/\x.c=y.c/\x.d=y.d)/\x.l=y.l:=by
 cases x;cases y;simp [and_assoc]
theorem qow{n k:Nat}{w x:Ws}(h:SzW n w)(h':SzW k x)(hl:w.l.length<=100000)(hl':x.l.length<=100000):Fun Tryz.prog 28 [wsD w,wsD x] [.v (.bool (decide (w=x)))] :=by
 have e:qc1 (List.take qwU.cells (List.drop (0+0) (wsD w).cells)) (List.take qwU.cells (List.drop (0+0) (wsD x).cells))=decide (w.a=x.a/\w.b=x.b/\w.c=x.c/\w.d=x.d):=by
  have t1: ∀w:Ws,List.take qwU.cells (List.drop (0+0) (wsD w).cells)=(pR (w.a,w.b)).cells++(pR (w.c,w.d)).cells:=fun w=>rfl
  have p1:qc1 (pR (w.a,w.b)).cells (pR (x.a,x.b)).cells=decide (w.a=x.a/\w.b=x.b):=qk8 _ _ _ _
  have p2:qc1 (pR (w.c,w.d)).cells (pR (x.c,x.d)).cells=decide (w.c=x.c/\w.d=x.d):=qk8 _ _ _ _
  rw [t1,t1,qe0 (show (pR (w.a,w.b)).cells.length=(pR (x.a,x.b)).cells.length from rfl),p1,p2]
  rw [Bool.eq_iff_iff];simp [and_assoc]
 refine qac (fun t=>false) mixed tOk Tryz.func28 rfl rfl ?_
 conv=>whnf
 refine qbe (fun q=> ?_) (fun q=> ?_)
 ·have q:=of_decide_eq_true (e.symm.trans q)
  conv=>whnf
  refine qaa rfl rfl (qrW w.l x.l hl hl' h.l h'.l) ?_
  conv=>whnf
  refine ⟨?_,trivial⟩
  conv=>whnf
  rw [decide_eq_decide,qpF];simp [q]
 ·have q:=of_decide_eq_false (e.symm.trans q)
  conv=>whnf
  refine ⟨?_,trivial⟩
  conv=>whnf
  rw [decide_eq_false];rw [qpF];exact fun h=>q h.1
theorem qB4(l:List Ob)(i:Nat)(hi:i<l.length):qjN Tryz.prog 79 45 3 [i64 i,i64 ((i:Int)+1)] (oL l) (oL (l.eraseIdx i)):=by
 have:=qzL (qci l) (i:=i) (by simp;omega)
 rw [show oL (l.eraseIdx i)=(oL l).take i++(oL l).drop (i+1) by unfold oL;rw [List.eraseIdx_eq_take_drop_succ,List.map_append,List.map_take,List.map_drop]]
 exact this
noncomputable abbrev ws0:Ws:=⟨⟨false,emp,emp⟩,⟨false,emp,emp⟩,⟨false,emp,emp⟩,⟨false,emp,emp⟩, []⟩
theorem qkK{n:Nat}{w:Ws}{o:Ob}(h:SzW n w)(ho:SzO n o)(hw:wsE w=0)(hl:w.l.length<32)(he:obE o=0)(hf:qdM (isN o.nm) w.l= -1):
  Fun Tryz.prog 27 [wsD w,obD o] [wsD {w with l:=w.l++ [o] },i64 0] :=by
 have hll:(oL w.l).length=w.l.length:=by simp
 have hc:=qep h (by omega)
 rw [hw] at hc
 have hk:=qfg ho
 rw [he] at hk
 have hi:=qd3 w.l o.nm (by omega)
 rw [hf] at hi
 refine qac (fun t=>t==4) mixed tOk Tryz.func27 rfl rfl ?_
 conv=>whnf
 refine qaa rfl rfl hc ?_
 conv=>whnf
 refine qbp (by decide) ?_
 conv=>whnf
 refine qaU (fun e=>absurd e (by omega)) (fun _=> ?_)
 conv=>whnf
 refine qaa rfl rfl hk ?_
 conv=>whnf
 refine qbp (by decide) ?_
 conv=>whnf
 refine qaa rfl rfl hi ?_
 conv=>whnf
 refine qbF (by omega) ?_
 conv=>whnf
 refine qhi (bytes:=64) (qma w (by omega)) ?_
 conv=>whnf
 refine qcW (qci _) (by intro x hx;rw [List.mem_singleton.1 hx];rfl) (by simp only [maxLen,List.length_cons,List.length_nil];omega) ?_
 conv=>whnf
 have ea:oL (w.l++ [o])=oL w.l++ [obD o] :=by unfold oL;rw [List.map_append];rfl
 have hw2:=qtA w (w.l++ [o])
 rw [ea] at hw2
 refine qkY 1 rfl (by omega) rfl hw2 ?_
 conv=>whnf
 refine qad (by kernel_rfl) ?_
 conv=>whnf
 refine ⟨?_, ?_,trivial⟩
 ·conv=>whnf
  rw [ea]
  exact ⟨rfl,rfl,rfl,rfl,rfl,rfl,rfl,rfl,rfl,rfl,rfl,rfl,rfl,trivial⟩
 ·conv=>whnf
theorem qjS{n:Nat}{w:Ws}{s:ByteArray}{j:Nat}(h:SzW n w)(hw:wsE w=0)(hl:w.l.length<=33)(hj:j<w.l.length)(hf:qdM (isN s) w.l=j):
  Fun Tryz.prog 25 [wsD w,.v (.string s)] [wsD {w with l:=w.l.eraseIdx j},i64 0] :=by
 have hll:(oL w.l).length=w.l.length:=by simp
 have hc:=qep h (by omega)
 rw [hw] at hc
 have hi:=qd3 w.l s (by omega)
 rw [hf] at hi
 refine qac (fun t=>t==4) mixed tOk Tryz.func25 rfl rfl ?_
 conv=>whnf
 refine qaa rfl rfl hc ?_
 conv=>whnf
 refine qbp (by decide) ?_
 conv=>whnf
 refine qaa rfl rfl hi ?_
 conv=>whnf
 refine qbF (by omega) ?_
 conv=>whnf
 refine qhi (bytes:=64) (qma w (by omega)) ?_
 conv=>whnf
 refine qak (by omega) ?_
 conv=>whnf
 refine qrQ rfl rfl (qB4 w.l j hj) ?_
 conv=>whnf
 refine qkY 1 rfl (by omega) rfl (qtA w (w.l.eraseIdx j)) ?_
 conv=>whnf
 refine qad (by kernel_rfl) ?_
 conv=>whnf
 refine ⟨?_, ?_,trivial⟩
 ·conv=>whnf
  exact ⟨rfl,rfl,rfl,rfl,rfl,rfl,rfl,rfl,rfl,rfl,rfl,rfl,rfl,trivial⟩
 ·conv=>whnf
theorem qdr{s:ByteArray}{l:List Ob}:l.any (isN s)=false↔s∉l.map Ob.nm:=by
 rw [List.any_eq_false]
 constructor
 ·intro h hm
  obtain ⟨x,hx,rfl⟩:=List.mem_map.1 hm
  exact h x hx (decide_eq_true rfl)
 ·intro h x hx hs
  exact h (List.mem_map.2 ⟨x,hx,of_decide_eq_true hs⟩)
theorem qqT: ∀(l pre:List Ob),scE pre l=0↔(∀x∈l,obE x=0)/\(l.map Ob.nm).Nodup/\ ∀x∈l,x.nm∉pre.map Ob.nm
 | [],pre=>by simp [scE]
 |x::t,pre=>by
  rw [scE]
  by_cases h1:obE x=0
  ·rw [if_neg (fun h=>h h1)]
   cases h2:pre.any (isN x.nm)
   ·have h2':=qdr.1 h2
    rw [if_neg (by decide),qqT t (pre++ [x])]
    simp only [List.map_append,List.map_cons,List.map_nil,List.mem_append,List.mem_singleton,List.forall_mem_cons,List.nodup_cons,not_or]
    constructor
    ·rintro ⟨a,b,c⟩
     refine ⟨⟨h1,a⟩,⟨fun hm=> ?_,b⟩,h2',fun y hy=>(c y hy).1⟩
     obtain ⟨y,hy,e⟩:=List.mem_map.1 hm
     exact (c y hy).2 e
    ·rintro ⟨⟨_,a⟩,⟨b,c⟩,_,d⟩
     exact ⟨a,c,fun y hy=>⟨d y hy,fun e=>b (List.mem_map.2 ⟨y,hy,e⟩)⟩⟩
   ·rw [if_pos rfl]
    have: ¬x.nm∉pre.map Ob.nm:=fun h=>by rw [qdr.2 h] at h2;exact absurd h2 (by decide)
    constructor
    ·intro h;exact absurd h (by decide)
    ·rintro ⟨_,_,h⟩;exact absurd (h x (by simp)) this
  ·rw [if_pos h1]
   constructor
   ·intro h;exact absurd h h1
   ·rintro ⟨h,_⟩;exact absurd (h x (by simp)) h1
theorem qfT{l:List Ob}:scE [] l=0↔(∀x∈l,obE x=0)/\(l.map Ob.nm).Nodup:=by
 rw [qqT];simp
theorem qfJ{w:Ws}:wsE w=0↔vbB w.a w.b w.c w.d=true/\w.l.length<=32/\scE [] w.l=0:=by
 refine ⟨qsh,fun ⟨h1,h2,h3⟩=> ?_⟩
 unfold wsE
 rw [if_neg (by rw [h1];decide),if_neg (by omega),h3]
theorem qm0{s:ByteArray}{l:List Ob}(h:s∉l.map Ob.nm):qdM (isN s) l= -1:=
 qeN fun i hi=>by
  have:=List.any_eq_false.1 (qdr.2 h) l[i] (List.getElem_mem hi)
  simpa using this
theorem qou{l:List Ob}{i:Nat}(hi:i<l.length)(hn:(l.map Ob.nm).Nodup):qdM (isN l[i].nm) l=i:=
 qeR hi (fun j hj=>by
  have:l[j].nm≠l[i].nm:=fun e=>by
   have h1:(l.map Ob.nm)[j]'(by simp;omega)=(l.map Ob.nm)[i]'(by simpa using hi):=by simpa using e
   have:=(List.getElem_inj hn).1 h1
   omega
  exact decide_eq_false this) (decide_eq_true rfl)
theorem qpO{w:Ws}{i:Nat}(h:wsE w=0):wsE {w with l:=w.l.eraseIdx i}=0:=by
 obtain ⟨h1,h2,h3⟩:=qfJ.1 h
 obtain ⟨h4,h5⟩:=qfT.1 h3
 have hs:=List.eraseIdx_sublist w.l i
 refine qfJ.2 ⟨h1,Nat.le_trans hs.length_le h2,qfT.2 ⟨fun x hx=>h4 x (hs.subset hx),h5.sublist (hs.map _)⟩⟩
theorem qrY{w:Ws}{o:Ob}(h:wsE w=0)(hl:w.l.length<32)(ho:obE o=0)(hn:o.nm∉w.l.map Ob.nm):wsE {w with l:=w.l++ [o] }=0:=by
 obtain ⟨h1,h2,h3⟩:=qfJ.1 h
 obtain ⟨h4,h5⟩:=qfT.1 h3
 refine qfJ.2 ⟨h1,by simp;omega,qfT.2 ⟨fun x hx=> ?_, ?_⟩⟩
 ·rcases List.mem_append.1 hx with hx|hx
  ·exact h4 x hx
  ·rw [List.mem_singleton.1 hx];exact ho
 ·rw [List.map_append,List.nodup_append]
  refine ⟨h5,by simp,fun a ha b hb e=> ?_⟩
  simp at hb
  subst hb;subst e
  exact hn ha
theorem qsb{l:List Ob}{i:Nat}(hi:i<l.length)(hn:(l.map Ob.nm).Nodup):l[i].nm∉(l.eraseIdx i).map Ob.nm:=by
 intro hm
 obtain ⟨x,hx,e⟩:=List.mem_map.1 hm
 rw [List.mem_eraseIdx_iff_getElem] at hx
 obtain ⟨j,hj,hne,rfl⟩:=hx
 have h1:(l.map Ob.nm)[j]'(by simpa using hj)=(l.map Ob.nm)[i]'(by simpa using hi):=by simpa using e
 exact hne ((List.getElem_inj hn).1 h1)
theorem qrf{l:List Ob}{i:Nat}(hi:i<l.length)(hn:(l.map Ob.nm).Nodup):l.eraseIdx i++ [l[i]] =l↔i=l.length-1:=by
 constructor
 ·intro h
  have h1:(l.eraseIdx i++ [l[i]]).getLast? =l.getLast? :=by rw [h]
  rw [List.getLast?_concat,List.getLast?_eq_getElem?,List.getElem?_eq_getElem (show l.length-1<l.length by omega)] at h1
  have h2:l[i] =l[l.length-1] :=Option.some.inj h1
  have h3:(l.map Ob.nm)[i]'(by simpa using hi)=(l.map Ob.nm)[l.length-1]'(by simp;omega):=by simp [h2]
  exact (List.getElem_inj hn).1 h3
 ·intro h
  subst h
  rw [List.eraseIdx_eq_take_drop_succ,show l.length-1+1=l.length by omega,List.drop_length,List.append_nil]
  have:=List.take_succ_eq_append_getElem (l:=l) (i:=l.length-1) hi
  rw [<-this,show l.length-1+1=l.length by omega,List.take_length]
theorem SzW.erase{n:Nat}{w:Ws}(h:SzW n w)(i:Nat):SzW n {w with l:=w.l.eraseIdx i}:=⟨h.a,h.b,h.c,h.d,fun x hx=>h.l x ((List.eraseIdx_sublist w.l i).subset hx)⟩
theorem SzW.snoc{n:Nat}{w:Ws}{o:Ob}(h:SzW n w)(ho:SzO n o):SzW n {w with l:=w.l++ [o] }:=⟨h.a,h.b,h.c,h.d,fun x hx=>(List.mem_append.1 hx).elim (h.l x) fun hx=>by rw [List.mem_singleton.1 hx];exact ho⟩
theorem qx5{a b c d:RD}{o:Ob}(h:g20 a b c d [pgO o] =false):SzO 12 o:=by
 have:SzW 12 ⟨a,b,c,d, [o]⟩:=qqk (by unfold g35;rw [if_neg (by simp)];simp;exact h) (by simp)
 exact this.l o (by simp)
noncomputable abbrev wz0:D:= .a ((quR ⟨false,emp,emp⟩ ⟨false,emp,emp⟩ ⟨false,emp,emp⟩ ⟨false,emp,emp⟩).cells++ [.v (.slice none 0 0)])
theorem qpK{n:Nat}{w:Ws}{o:Ob}(h:SzW n w)(ho:SzO n o)(hw:wsE w=0)(hl:w.l.length<32)(he:obE o≠0):
  Fun Tryz.prog 27 [wsD w,obD o] [wz0,i64 (obE o)] :=by
 have hll:(oL w.l).length=w.l.length:=by simp
 have hc:=qep h (by omega)
 rw [hw] at hc
 refine qac (fun t=>t==4) mixed tOk Tryz.func27 rfl rfl ?_
 conv=>whnf
 refine qaa rfl rfl hc ?_
 conv=>whnf
 refine qbp (by decide) ?_
 conv=>whnf
 refine qaU (fun e=>absurd e (by omega)) (fun _=> ?_)
 conv=>whnf
 refine qaa rfl rfl (qfg ho) ?_
 conv=>whnf
 refine qat (fun _=> ?_) (fun e=>absurd e he)
 conv=>whnf
 refine ⟨?_, ?_,trivial⟩
 ·conv=>whnf
  exact ⟨rfl,rfl,rfl,rfl,rfl,rfl,rfl,rfl,rfl,rfl,rfl,rfl,rfl,trivial⟩
 ·conv=>whnf
theorem qsc{n:Nat}{w:Ws}{o:Ob}(h:SzW n w)(ho:SzO n o)(hw:wsE w=0)(hl:w.l.length<32)(he:obE o≠0):Fun Tryz.prog 27 [wsD w,obD o] [wsD ws0,i64 (obE o)] :=qqA (qpK h ho hw hl he)
theorem qoB{n:Nat}{w:Ws}{o:Ob}(h:SzW n w)(ho:SzO n o)(hw:wsE w=0)(hl:w.l.length<32)(he:obE o=0)(hf:0<=qdM (isN o.nm) w.l):
  Fun Tryz.prog 27 [wsD w,obD o] [wz0,i64 5] :=by
 have hll:(oL w.l).length=w.l.length:=by simp
 have hc:=qep h (by omega)
 rw [hw] at hc
 have hk:=qfg ho
 rw [he] at hk
 refine qac (fun t=>t==4) mixed tOk Tryz.func27 rfl rfl ?_
 conv=>whnf
 refine qaa rfl rfl hc ?_
 conv=>whnf
 refine qbp (by decide) ?_
 conv=>whnf
 refine qaU (fun e=>absurd e (by omega)) (fun _=> ?_)
 conv=>whnf
 refine qaa rfl rfl hk ?_
 conv=>whnf
 refine qbp (by decide) ?_
 conv=>whnf
 refine qaa rfl rfl (qd3 w.l o.nm (by omega)) ?_
 conv=>whnf
 refine qaT hf ?_
 conv=>whnf
 refine ⟨?_, ?_,trivial⟩
 ·conv=>whnf
  exact ⟨rfl,rfl,rfl,rfl,rfl,rfl,rfl,rfl,rfl,rfl,rfl,rfl,rfl,trivial⟩
 ·conv=>whnf
theorem qrp{n:Nat}{w:Ws}{o:Ob}(h:SzW n w)(ho:SzO n o)(hw:wsE w=0)(hl:w.l.length<32)(he:obE o=0)(hf:0<=qdM (isN o.nm) w.l):Fun Tryz.prog 27 [wsD w,obD o] [wsD ws0,i64 5] :=qqA (qoB h ho hw hl he hf)
theorem law4(hA:Fun Tryz.prog 12 [] [.v (.bool true)])(w:Ws)(hw:qDK w)(o:Ob)(ho:qwN (pgO o)):
  Fun Tryz.prog 4 [wsD w,obD o] [.v (.bool true)] :=by
 have hll:(oL w.l).length=w.l.length:=by simp
 have hsm:=qwL w hw.n hw.l
 have hgr:=qfE w.a w.b w.c w.d [pgO o] (by simp) (by intro p hp;rw [List.mem_singleton.1 hp];exact ho)
 refine qac (fun t=>t==6||t==9||t==11||t==13||t==15) mixed tOk Tryz.func4 rfl rfl ?_
 conv=>whnf
 refine qaa rfl rfl hsm ?_
 conv=>whnf
 refine qbb (fun c1=> ?_) (fun c1=> ?_)
 ·conv=>whnf
  refine qaa rfl rfl hA ?_
  conv=>whnf
  exact ⟨rfl,trivial⟩
 rw [Bool.and_eq_true] at c1
 have hwe:=of_decide_eq_true c1.2
 have hsm2:=c1.1
 unfold smW at hsm2
 rw [Bool.and_eq_true] at hsm2
 have hl4:=of_decide_eq_true hsm2.2
 have hz:SzW 12 w:=qqk (by simpa using hsm2.1) hl4
 obtain ⟨v1,v2,v3⟩:=qfJ.1 hwe
 obtain ⟨v4,v5⟩:=qfT.1 v3
 conv=>whnf
 refine qaa rfl rfl hgr ?_
 conv=>whnf
 refine qal (fun c2=> ?_) (fun c2=> ?_)
 ·conv=>whnf
  refine qaa rfl rfl hA ?_
  conv=>whnf
  exact ⟨rfl,trivial⟩
 have hzo:=qx5 c2
 conv=>whnf
 refine qaf (fun c3=> ?_) (fun c3=> ?_)
 ·conv=>whnf
  refine qaa rfl rfl hA ?_
  conv=>whnf
  exact ⟨rfl,trivial⟩
 conv=>whnf
 refine qah (fun t=>t==6||t==9||t==11||t==13||t==15) (fun i:Nat=>⟨fr 151 [(2,.d (.p 0 (wsD w).cells)),(3,.d (.p 0 (obD o).cells)),(36,.d (.l (oL w.l))),(37,.d (i64 (oL w.l).length)),(38,.d (i64 i))], []⟩) (fun i=>i<=w.l.length) (fun i=>w.l.length-i) 0 mixed tOk (by omega) ?_ ?_
 ·refine qag ?_ ?_<;>repeat' (first|exact trivial|exact rfl|apply And.intro)
 ·intro i hi
  conv=>whnf
  refine qaf (fun hlt=> ?_) (fun hge=> ?_)
  ·have hlt':i<w.l.length:=by omega
   have hfi:=qou hlt' v5
   have hfind:=qrT w w.l[i].nm (by omega)
   rw [hfi,decide_eq_true (show (0:Int)<=(i:Int) by omega),show max (i:Int) 0=i by omega] at hfind
   have hrem:=qjS hz hwe (by omega) hlt' hfi
   have hwr:=qpO (i:=i) hwe
   have hzr:=hz.erase i
   have hlr:(w.l.eraseIdx i).length=w.l.length-1:=List.length_eraseIdx_of_lt hlt'
   have hckr:=qep hzr (by show (w.l.eraseIdx i).length<_;omega)
   rw [hwr] at hckr
   obtain ⟨bk,hbk⟩: ∃bk:Ws,bk={w with l:=w.l.eraseIdx i++ [w.l[i]] }:=⟨_,rfl⟩
   have hins:Fun Tryz.prog 27 [wsD {w with l:=w.l.eraseIdx i},obD w.l[i]] [wsD bk,i64 0] :=by
    rw [hbk]
    exact qkK hzr (hz.l _ (List.getElem_mem hlt')) hwr (by show (w.l.eraseIdx i).length<_;omega) (v4 _ (List.getElem_mem hlt')) (qm0 (qsb hlt' v5))
   have hsame:Fun Tryz.prog 28 [wsD bk,wsD w] [.v (.bool (decide (bk=w)))] :=by
    rw [hbk]
    exact qow (hzr.snoc (hz.l _ (List.getElem_mem hlt'))) hz (by show (w.l.eraseIdx i++ [w.l[i]]).length<=_;simp [hlr];omega) (by omega)
   have hq:decide (bk=w)=((i:Int)==((oL w.l).length:Int)-1):=by
    rw [hbk,Bool.eq_iff_iff,decide_eq_true_eq,beq_iff_eq,qpF]
    simp only [true_and,and_self]
    rw [qrf hlt' v5,hll]
    omega
   clear hbk
   conv=>whnf
   refine qae (obD w.l[i]) (qdL hlt') (by omega) (qci w.l) ?_
   conv=>whnf
   refine qaa rfl rfl hfind ?_
   conv=>whnf
   refine qaa rfl rfl hrem ?_
   conv=>whnf
   generalize hb:bz ((i:Int) !=(i:Int))=b
   have hbf:b=false:=by rw [<-hb,qay];simp
   clear hb
   subst hbf
   conv=>whnf
   generalize hb:bz ((0:Int) !=0)=b
   have hbf:b=false:=by rw [<-hb,qay];rfl
   clear hb
   subst hbf
   conv=>whnf
   refine qaa rfl rfl hckr ?_
   conv=>whnf
   generalize hb:bz ((0:Int) !=0)=b
   have hbf:b=false:=by rw [<-hb,qay];rfl
   clear hb
   subst hbf
   conv=>whnf
   refine qak (by omega) ?_
   conv=>whnf
   have hl2:(oL (w.l.eraseIdx i)).length=(w.l.eraseIdx i).length:=by simp
   have hl3:((oL {w with l:=w.l.eraseIdx i}.l).length:Int)=((oL w.l).length:Int)-1:=by show ((oL (w.l.eraseIdx i)).length:Int)=_;omega
   refine qat (fun h=>absurd hl3 h) (fun _=> ?_)
   conv=>whnf
   refine qaa rfl rfl hins ?_
   conv=>whnf
   generalize hb:bz ((0:Int) !=0)=b
   have hbf:b=false:=by rw [<-hb,qay];rfl
   clear hb
   subst hbf
   conv=>whnf
   refine qiT hsame rfl ?_
   conv=>whnf
   refine qak (by omega) ?_
   conv=>whnf
   refine qad (by kernel_rfl) ?_
   conv=>whnf
   generalize hb:bz (!(decide (bk=w)==bz ((i:Int)==((oL w.l).length:Int)-1)))=b
   have hbf:b=false:=by rw [<-hb,qay,qay,hq];simp
   clear hb
   subst hbf
   conv=>whnf
   refine qak (by omega) ?_
   conv=>whnf
   refine ⟨i+1,by omega,by omega, ?_⟩
   rw [Int.natCast_succ]
   refine qaj 0 rfl (qaj 1 rfl (qaj 2 rfl ?_))
   refine qag ?_ ?_<;>repeat' (first|exact trivial|exact rfl|apply And.intro)
  ·have hiE:i=w.l.length:=by omega
   subst hiE
   by_cases k0:obE o=0/\o.nm∉w.l.map Ob.nm
   ·obtain ⟨k1,k2⟩:=k0
    have hwx:=qrY hwe (by omega) k1 k2
    have hzx:=hz.snoc hzo
    have hck:=qep hzx (by show (w.l++ [o]).length<_;simp;omega)
    rw [hwx] at hck
    have hins:=qkK hz hzo hwe (by omega) k1 (qm0 k2)
    have hlx:w.l.length<(w.l++ [o]).length:=by simp
    have hnx:((w.l++ [o]).map Ob.nm).Nodup:=(qfT.1 (qfJ.1 hwx).2.2).2
    have hgx:(w.l++ [o])[w.l.length] =o:=by simp
    have hfx:=qou hlx hnx
    rw [hgx] at hfx
    have hrem:=qjS hzx hwx (by show (w.l++ [o]).length<=_;simp;omega) hlx hfx
    have hex:(w.l++ [o]).eraseIdx w.l.length=w.l:=by rw [List.eraseIdx_append_of_length_le (Nat.le_refl _)];simp
    have hwe2:({({w with l:=w.l++ [o] }:Ws) with l:=(w.l++ [o]).eraseIdx w.l.length}:Ws)=w:=by rw [hex]
    rw [hwe2] at hrem
    generalize ({w with l:=w.l++ [o] }:Ws)=x at*
    have hsm:=qsd hz (by omega)
    conv=>whnf
    refine qaa rfl rfl hins ?_
    conv=>whnf
    generalize hb:bz ((0:Int) !=0)=b
    have hbf:b=false:=by rw [<-hb,qay];rfl
    clear hb
    subst hbf
    conv=>whnf
    refine qaa rfl rfl hrem ?_
    conv=>whnf
    refine qaa rfl rfl hck ?_
    conv=>whnf
    generalize hb:bz ((0:Int)==0)=b
    have hbf:b=true:=by rw [<-hb,qay];rfl
    clear hb
    subst hbf
    conv=>whnf
    generalize hb:bz ((0:Int)==0)=b
    have hbf:b=true:=by rw [<-hb,qay];rfl
    clear hb
    subst hbf
    conv=>whnf
    refine qaa rfl rfl hsm ?_
    conv=>whnf
    refine qaa rfl rfl hA ?_
    conv=>whnf
    refine ⟨?_,trivial⟩
    conv=>whnf
   ·obtain ⟨e,he0,he,hins⟩: ∃e:Int,e≠0/\(e=5\/obE o=e)/\Fun Tryz.prog 27 [wsD w,obD o] [wsD ws0,i64 e] :=by
     by_cases k1:obE o=0
     ·have k2:o.nm∈w.l.map Ob.nm:=Classical.not_not.1 fun h=>k0 ⟨k1,h⟩
      obtain ⟨x,hx,e⟩:=List.mem_map.1 k2
      obtain ⟨q,hq,rfl⟩:=List.mem_iff_getElem.1 hx
      exact ⟨5,by omega,.inl rfl,qrp hz hzo hwe (by omega) k1 (by rw [<-e,qou hq v5];omega)⟩
     ·exact ⟨obE o,k1,.inr rfl,qsc hz hzo hwe (by omega) k1⟩
    conv=>whnf
    refine qaa rfl rfl hins ?_
    conv=>whnf
    generalize hb:bz (e !=0)=b
    have hbf:b=true:=by rw [<-hb,qay];simpa using he0
    clear hb
    subst hbf
    conv=>whnf
    generalize hb:bz (((oL ws0.l).length:Int)==0)=b
    have hbf:b=true:=by rw [<-hb,qay];rfl
    clear hb
    subst hbf
    conv=>whnf
    generalize hb:bz (e==5)=b
    cases b with
    |true=>
     conv=>whnf
     refine qaa rfl rfl hA ?_
     conv=>whnf
     refine ⟨?_,trivial⟩
     conv=>whnf
    |false=>
     rw [qay] at hb
     have he5:obE o=e:=he.resolve_left (by simpa using hb)
     have hck:=qiD hzo
     rw [he5] at hck
     conv=>whnf
     refine qaa rfl rfl hck ?_
     conv=>whnf
     generalize hb2:bz (e==e)=b
     have hbf:b=true:=by rw [<-hb2,qay];simp
     clear hb2
     subst hbf
     conv=>whnf
     refine qaa rfl rfl hA ?_
     conv=>whnf
     refine ⟨?_,trivial⟩
     conv=>whnf
end Go.Nv
end
