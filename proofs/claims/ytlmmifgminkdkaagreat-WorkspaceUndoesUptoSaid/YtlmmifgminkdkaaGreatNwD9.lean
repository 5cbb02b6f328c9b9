import Derived.Test.YtlmmifgminkdkaaGreatNwD8
import Derived.Test.YtlmmifgminkdkaaGreatNwC5
set_option linter.all false
set_option maxRecDepth 100000
section
namespace Go.Nv
open Go.Proofs Nw
theorem Ord.tr{hs:List (List P2)}(h:Ord hs)(hr: ∀x∈hs,RgOk x)(v:P2):Ord (trH v hs):=by
 intro i hi
 have hl:(trH v hs).length=hs.length:=List.length_map ..
 rw [hl] at hi
 have h1:=h i hi
 have g: ∀j,j<hs.length->(trH v hs).getD j [] =trL v (hs.getD j []):=fun j hj=>by
  rw [List.getD_eq_getElem?_getD,List.getD_eq_getElem?_getD]
  unfold trH
  rw [List.getElem?_map,List.getElem?_eq_getElem hj];rfl
 have p: ∀j,j<hs.length->0<(hs.getD j []).length:=fun j hj=>by
  rw [List.getD_eq_getElem?_getD,List.getElem?_eq_getElem hj]
  have:=(hr _ (List.getElem_mem hj)).len
  simp only [Option.getD_some];omega
 rw [g i (by omega),g (i+1) hi,qgW (p i (by omega)),qgW (p (i+1) hi),qib]
 exact h1
theorem qn5(b:Bool):eqV (.bool b) (.bool b)=true:=by cases b<;>rfl
theorem qfY(s:ByteArray):eqV (.string s) (.string s)=true:=by
 show (s==s)=true
 rw [qbu];exact decide_eq_true rfl
theorem qaG{u:Value}{xs ys:List D}(h:eqV u u=true)(k:qc1 xs ys=true):qc1 (.v u::xs) (.v u::ys)=true:=by
 show (eqV u u&&qc1 xs ys)=true
 rw [h,k];rfl
theorem nqP(p:RD×RD):(!qc1 (List.take qr9.cells (List.drop 0 (pR p).cells)) (List.take qr9.cells (List.drop 0 (pR p).cells)))=false:=by
 have e:qc1 (List.take qr9.cells (List.drop 0 (pR p).cells)) (List.take qr9.cells (List.drop 0 (pR p).cells))=true:=
  qaG (qn5 _) (qaG (qfY _) (qaG (qfY _) (qaG (qn5 _) (qaG (qfY _) (qaG (qfY _) rfl)))))
 rw [e];rfl
theorem qq0(l:List (RD×RD))(hl:l.length<=100000):Fun Tryz.prog 103 [.l (rL l),.l (rL l)] [.v (.bool true)] :=by
 have hll:(rL l).length=l.length:=by simp
 refine qac (fun t=>false) mixed tOk Tryz.func103 rfl rfl ?_
 conv=>whnf
 refine qat (fun h=>absurd rfl h) (fun _=> ?_)
 conv=>whnf
 refine qah (fun t=>false) (fun i:Nat=>⟨fr 26 [(0,.d (.l (rL l))),(1,.d (.l (rL l))),(12,.d (i64 (rL l).length)),(13,.d (i64 i))], []⟩) (fun i=>i<=l.length) (fun i=>l.length-i) 0 mixed tOk (by omega) ?_ ?_
 ·refine qag ?_ ?_<;>repeat' (first|exact trivial|exact rfl|apply And.intro)
 ·intro i hi
  conv=>whnf
  refine qaf (fun hlt=> ?_) (fun hge=> ?_)
  ·have hlt':i<l.length:=by omega
   have hg:(rL l)[((i:Nat):Int).toNat]? =some (pR l[i]):=qh7 hlt'
   conv=>whnf
   refine qae (pR l[i]) hg (by omega) (qhJ _) ?_
   conv=>whnf
   refine qae (pR l[i]) hg (by omega) (qhJ _) ?_
   conv=>whnf
   refine qad (by kernel_rfl) ?_
   conv=>whnf
   refine qbp (nqP _) ?_
   conv=>whnf
   refine qak (by omega) ?_
   conv=>whnf
   refine ⟨i+1,by omega,by omega, ?_⟩
   rw [Int.natCast_succ]
   refine qag ?_ ?_<;>repeat' (first|exact trivial|exact rfl|apply And.intro)
  ·conv=>whnf
   refine ⟨?_,trivial⟩
   conv=>whnf
theorem qqU(l:List (List (RD×RD)))(hl:l.length<=100000)(hb: ∀h∈l,h.length<=100000):Fun Tryz.prog 102 [.l (hR l),.l (hR l),.f 103 []] [.v (.bool true)] :=by
 have hll:(hR l).length=l.length:=by simp
 refine qac (fun t=>false) mixed tOk Tryz.func102 rfl rfl ?_
 conv=>whnf
 refine qat (fun h=>absurd rfl h) (fun _=> ?_)
 conv=>whnf
 refine qah (fun t=>false) (fun i:Nat=>⟨fr 32 [(0,.d (.l (hR l))),(1,.d (.l (hR l))),(2,.d (.f 103 [])),(15,.d (.l (hR l))),(16,.d (i64 (hR l).length)),(17,.d (i64 i))], []⟩) (fun i=>i<=l.length) (fun i=>l.length-i) 0 mixed tOk (by omega) ?_ ?_
 ·refine qag ?_ ?_<;>repeat' (first|exact trivial|exact rfl|apply And.intro)
 ·intro i hi
  conv=>whnf
  refine qaf (fun hlt=> ?_) (fun hge=> ?_)
  ·have hlt':i<l.length:=by omega
   have hg:(hR l)[((i:Nat):Int).toNat]? =some (.l (rL l[i])):=qgb hlt'
   conv=>whnf
   refine qae (.l (rL l[i])) hg (by omega) (qcJ _) ?_
   conv=>whnf
   refine qae (.l (rL l[i])) hg (by omega) (qcJ _) ?_
   conv=>whnf
   refine qaa rfl rfl (qq0 l[i] (hb _ (List.getElem_mem _))) ?_
   conv=>whnf
   refine qak (by omega) ?_
   conv=>whnf
   refine ⟨i+1,by omega,by omega, ?_⟩
   rw [Int.natCast_succ]
   refine qag ?_ ?_<;>repeat' (first|exact trivial|exact rfl|apply And.intro)
  ·conv=>whnf
   refine ⟨?_,trivial⟩
   conv=>whnf
theorem qsg{n:Nat}{x:Ob}(h:SzO n x):Fun Tryz.prog 85 [pgR x.o x.hs,pgR x.o x.hs] [.v (.bool true)] :=by
 have h1:=h.lo
 have h2:=h.lh
 refine qac (fun t=>false) mixed tOk Tryz.func85 rfl rfl ?_
 conv=>whnf
 refine qaa rfl rfl (qq0 x.o (by omega)) ?_
 conv=>whnf
 refine qaa rfl rfl (qqU x.hs (by omega) (fun l hl=>by have:=h.ll l hl;omega)) ?_
 conv=>whnf
 refine ⟨?_,trivial⟩
 conv=>whnf
theorem que{n:Nat}{x:Ob}(h:SzO n x):Fun Tryz.prog 84 [obD x,obD x] [.v (.bool true)] :=by
 refine qac (fun t=>false) mixed tOk Tryz.func84 rfl rfl ?_
 conv=>whnf
 refine qjw (qfY x.nm) ?_
 conv=>whnf
 refine qaa rfl rfl (qsg h) ?_
 conv=>whnf
 refine ⟨?_,trivial⟩
 conv=>whnf
theorem quH{n:Nat}(l:List Ob)(hl:l.length<=100000)(h: ∀x∈l,SzO n x):Fun Tryz.prog 83 [.l (oL l),.l (oL l),.f 84 []] [.v (.bool true)] :=by
 have hll:(oL l).length=l.length:=by simp
 refine qac (fun t=>t==8||t==9) mixed tOk Tryz.func83 rfl rfl ?_
 conv=>whnf
 refine qat (fun h=>absurd rfl h) (fun _=> ?_)
 conv=>whnf
 refine qah (fun t=>t==8||t==9) (fun i:Nat=>⟨fr 32 [(0,.d (.l (oL l))),(1,.d (.l (oL l))),(2,.d (.f 84 [])),(15,.d (.l (oL l))),(16,.d (i64 (oL l).length)),(17,.d (i64 i))], []⟩) (fun i=>i<=l.length) (fun i=>l.length-i) 0 mixed tOk (by omega) ?_ ?_
 ·refine qag ?_ ?_<;>repeat' (first|exact trivial|exact rfl|apply And.intro)
 ·intro i hi
  conv=>whnf
  refine qaf (fun hlt=> ?_) (fun hge=> ?_)
  ·have hlt':i<l.length:=by omega
   have hg:(oL l)[((i:Nat):Int).toNat]? =some (obD l[i]):=qdL hlt'
   conv=>whnf
   refine qae (obD l[i]) hg (by omega) (qci _) ?_
   conv=>whnf
   refine qae (obD l[i]) hg (by omega) (qci _) ?_
   conv=>whnf
   refine qaa rfl rfl (que (h _ (List.getElem_mem hlt'))) ?_
   conv=>whnf
   refine qak (by omega) ?_
   conv=>whnf
   refine ⟨i+1,by omega,by omega, ?_⟩
   rw [Int.natCast_succ]
   refine qaj 1 rfl ?_
   refine qaj 0 rfl ?_
   refine qag ?_ ?_<;>repeat' (first|exact trivial|exact rfl|apply And.intro)
  ·conv=>whnf
   refine ⟨?_,trivial⟩
   conv=>whnf
theorem qsd{n:Nat}{w:Ws}(h:SzW n w)(hl:w.l.length<=100000):Fun Tryz.prog 28 [wsD w,wsD w] [.v (.bool true)] :=by
 have e:qc1 (List.take qwU.cells (List.drop (0+0) (wsD w).cells)) (List.take qwU.cells (List.drop (0+0) (wsD w).cells))=true:=
  qaG (qn5 _) (qaG (qfY _) (qaG (qfY _) (qaG (qn5 _) (qaG (qfY _) (qaG (qfY _)
   (qaG (qn5 _) (qaG (qfY _) (qaG (qfY _) (qaG (qn5 _) (qaG (qfY _) (qaG (qfY _) rfl)))))))))))
 refine qac (fun t=>false) mixed tOk Tryz.func28 rfl rfl ?_
 conv=>whnf
 refine qjw e ?_
 conv=>whnf
 refine qaa rfl rfl (quH w.l hl h.l) ?_
 conv=>whnf
 refine ⟨?_,trivial⟩
 conv=>whnf
theorem qww(s:ByteArray):Fun Tryz.prog 86 [.v (.string s)] [.v (.bool (nmB s))] :=by
 have hsl:s.data.toList.length=s.size:=Array.length_toList
 refine qac (fun t=>false) mixed tOk Tryz.func86 rfl rfl ?_
 conv=>whnf
 refine qaf (fun h1=> ?_) (fun h1=> ?_)
 ·conv=>whnf
  refine ⟨?_,trivial⟩
  conv=>whnf
  rw [nmB,decide_eq_false (by omega)]
 ·conv=>whnf
  refine qaf (fun h2=> ?_) (fun h2=> ?_)
  ·conv=>whnf
   refine ⟨?_,trivial⟩
   conv=>whnf
   rw [nmB,decide_eq_false (by omega)]
  ·conv=>whnf
   refine qah (fun t=>false) (fun i:Nat=>⟨fr 41 [(0,.d (.v (.string s))),(3,.d (i64 i))], []⟩) (fun i=>i<=s.size/\ ∀j (hj:j<i) (hjl:j<s.data.toList.length),bdB s.data.toList[j] =false) (fun i=>s.size-i) 0 mixed tOk ⟨by omega,fun j hj=>by omega⟩ ?_ ?_
   ·refine qag ?_ ?_<;>repeat' (first|exact trivial|exact rfl|apply And.intro)
   ·rintro i ⟨hi,hno⟩
    conv=>whnf
    refine qaf (fun hlt=> ?_) (fun hge=> ?_)
    ·have hlt':i<s.data.toList.length:=by omega
     conv=>whnf
     refine qak (by omega) ?_
     conv=>whnf
     have eb:bt s i=(s.data.toList[i].toNat:Int):=by
      unfold bt
      rw [dif_pos (show (i:Int).toNat<s.size by omega)]
      rfl
     generalize bt s i=c at*
     have ed:bdB s.data.toList[i] =bdC c:=by rw [eb];rfl
     have bad:bdC c=true->nmB s=false:=fun h=>by
      rw [nmB]
      refine decide_eq_false fun k=> ?_
      have:=k.2.2 _ (List.getElem_mem hlt')
      rw [ed,h] at this
      exact absurd this (by decide)
     have good:bdC c=false-> ∀j (hj:j<i+1) (hjl:j<s.data.toList.length),bdB s.data.toList[j] =false:=fun h j hj hjl=>by
      by_cases hji:j=i
      ·subst hji;rw [ed];exact h
      ·exact hno j (by omega) hjl
     refine qaf (fun h1=> ?_) (fun h1=> ?_)
     ·conv=>whnf
      refine qaf (fun h2=> ?_) (fun h2=> ?_)
      ·conv=>whnf
       refine qak (by omega) ?_
       conv=>whnf
       refine ⟨i+1,⟨by omega,good (by rw [bdC];exact decide_eq_false (by omega))⟩,by omega, ?_⟩
       rw [Int.natCast_succ]
       refine qag ?_ ?_<;>repeat' (first|exact trivial|exact rfl|apply And.intro)
      ·conv=>whnf
       refine qaf (fun h3=> ?_) (fun h3=> ?_)
       ·conv=>whnf
        refine qaf (fun h4=> ?_) (fun h4=> ?_)
        ·exact absurd h4 (by omega)
        ·conv=>whnf
         refine qbb (fun h5=> ?_) (fun h5=> ?_)
         ·rw [qay] at h5
          have h6:c≠95:=by simpa using h5
          rw [bad (by rw [bdC];exact decide_eq_true (by omega))]
          conv=>whnf
          exact ⟨rfl,trivial⟩
         ·rw [qay] at h5
          have h6:c=95:=by simpa using h5
          conv=>whnf
          refine qak (by omega) ?_
          conv=>whnf
          refine ⟨i+1,⟨by omega,good (by rw [bdC];exact decide_eq_false (by omega))⟩,by omega, ?_⟩
          rw [Int.natCast_succ]
          refine qag ?_ ?_<;>repeat' (first|exact trivial|exact rfl|apply And.intro)
       ·exact absurd h3 (by omega)
     ·conv=>whnf
      refine qaf (fun h3=> ?_) (fun h3=> ?_)
      ·conv=>whnf
       refine qaf (fun h4=> ?_) (fun h4=> ?_)
       ·conv=>whnf
        refine qak (by omega) ?_
        conv=>whnf
        refine ⟨i+1,⟨by omega,good (by rw [bdC];exact decide_eq_false (by omega))⟩,by omega, ?_⟩
        rw [Int.natCast_succ]
        refine qag ?_ ?_<;>repeat' (first|exact trivial|exact rfl|apply And.intro)
       ·conv=>whnf
        refine qbb (fun h5=> ?_) (fun h5=> ?_)
        ·rw [qay] at h5
         have h6:c≠95:=by simpa using h5
         rw [bad (by rw [bdC];exact decide_eq_true (by omega))]
         conv=>whnf
         exact ⟨rfl,trivial⟩
        ·rw [qay] at h5
         have h6:c=95:=by simpa using h5
         conv=>whnf
         refine qak (by omega) ?_
         conv=>whnf
         refine ⟨i+1,⟨by omega,good (by rw [bdC];exact decide_eq_false (by omega))⟩,by omega, ?_⟩
         rw [Int.natCast_succ]
         refine qag ?_ ?_<;>repeat' (first|exact trivial|exact rfl|apply And.intro)
      ·conv=>whnf
       refine qbb (fun h5=> ?_) (fun h5=> ?_)
       ·rw [qay] at h5
        have h6:c≠95:=by simpa using h5
        rw [bad (by rw [bdC];exact decide_eq_true (by omega))]
        conv=>whnf
        exact ⟨rfl,trivial⟩
       ·rw [qay] at h5
        have h6:c=95:=by simpa using h5
        conv=>whnf
        refine qak (by omega) ?_
        conv=>whnf
        refine ⟨i+1,⟨by omega,good (by rw [bdC];exact decide_eq_false (by omega))⟩,by omega, ?_⟩
        rw [Int.natCast_succ]
        refine qag ?_ ?_<;>repeat' (first|exact trivial|exact rfl|apply And.intro)
    ·have e:nmB s=true:=by
      rw [nmB]
      refine decide_eq_true ⟨by omega,by omega,fun b hb=> ?_⟩
      obtain ⟨j,hj,rfl⟩:=List.mem_iff_getElem.1 hb
      exact hno j (by omega) hj
     rw [e]
     conv=>whnf
     exact ⟨rfl,trivial⟩
theorem qv0(w:Ws)(s:ByteArray)(hl:w.l.length<1000000000000000):Fun Tryz.prog 46 [wsD w,.v (.string s)] [i64 (max (qdM (isN s) w.l) 0),.v (.bool (decide (0<=qdM (isN s) w.l)))] :=by
 have hll:(oL w.l).length=w.l.length:=by simp
 refine qac (fun t=>false) mixed tOk Tryz.func46 rfl rfl ?_
 conv=>whnf
 refine qah (fun t=>false) (fun i:Nat=>⟨fr 23 [(1,.d (.v (.string s))),(2,.d (.p 0 (wsD w).cells)),(6,.d (i64 i))], []⟩) (fun i=>i<=w.l.length/\ ∀j (hj:j<i) (hjl:j<w.l.length),isN s w.l[j] =false) (fun i=>w.l.length-i) 0 mixed tOk ⟨by omega,fun j hj=>by omega⟩ ?_ ?_
 ·refine qag ?_ ?_<;>repeat' (first|exact trivial|exact rfl|apply And.intro)
 ·rintro i ⟨hi,hno⟩
  conv=>whnf
  refine qaf (fun hlt=> ?_) (fun hge=> ?_)
  ·have hlt':i<w.l.length:=by omega
   conv=>whnf
   refine qae (obD w.l[i]) (qdL hlt') (by omega) (qci w.l) ?_
   conv=>whnf
   have en:(w.l[i].nm==s)=isN s w.l[i] :=by rw [isN,qbu]
   refine qbe (fun h1=> ?_) (fun h1=> ?_)
   ·rw [en] at h1
    rw [qeR hlt' (fun j hj=>hno j hj (by omega)) h1]
    conv=>whnf
    refine ⟨?_, ?_,trivial⟩
    ·conv=>whnf
     rw [Int.max_def];split<;>omega
    ·conv=>whnf
     exact (decide_eq_true (by omega)).symm
   ·rw [en] at h1
    conv=>whnf
    refine qak (by omega) ?_
    conv=>whnf
    refine ⟨i+1,⟨by omega,fun j hj hjl=> ?_⟩,by omega, ?_⟩
    ·by_cases hji:j=i
     ·subst hji;exact h1
     ·exact hno j (by omega) hjl
    rw [Int.natCast_succ]
    refine qag ?_ ?_<;>repeat' (first|exact trivial|exact rfl|apply And.intro)
  ·have:i=w.l.length:=by omega
   subst this
   rw [qeN (fun j hj=>hno j hj hj)]
   conv=>whnf
   exact ⟨rfl,rfl,trivial⟩
theorem qiD{n:Nat}{x:Ob}(h:SzO n x):Fun Tryz.prog 29 [obD x] [i64 (obE x)] :=by
 have hp:=qpA x.o x.hs h.hn h.lo (by have:=h.lh;omega) h.o h.h h.ll
 refine qac (fun t=>false) mixed tOk Tryz.func29 rfl rfl ?_
 conv=>whnf
 refine qaa rfl rfl (qww x.nm) ?_
 conv=>whnf
 refine qbb (fun c1=> ?_) (fun c1=> ?_)
 ·rw [qAf c1]
  conv=>whnf
  exact ⟨rfl,trivial⟩
 ·rw [qxk c1]
  conv=>whnf
  refine qaa rfl rfl hp ?_
  conv=>whnf
  refine ⟨?_,trivial⟩
  conv=>whnf
theorem qzr{α:Type}{g:α->Bool}{l:List α}{i:Nat}(h:i<l.length)(hg:g l[i] =true):((max (qdM g l) 0<i->(l.take i).any g=true)/\((l.take i).any g=true->0<=qdM g l/\qdM g l<i)):=by
 unfold qdM
 cases hf:l.findIdx? g with
 |none=>
  rw [List.findIdx?_eq_none_iff] at hf
  have:=hf _ (List.getElem_mem h)
  rw [hg] at this
  exact absurd this (by decide)
 |some j=>
  rw [List.findIdx?_eq_some_iff_getElem] at hf
  obtain ⟨hj,h1,h2⟩:=hf
  refine ⟨fun k=> ?_,fun k=> ?_⟩
  ·have k':max (j:Int) 0<i:=k
   have hji:j<i:=by omega
   rw [List.any_eq_true]
   refine ⟨l[j], ?_,h1⟩
   rw [List.mem_take_iff_getElem]
   exact ⟨j,by omega,rfl⟩
  ·obtain ⟨x,hx,hgx⟩:=List.any_eq_true.1 k
   rw [List.mem_take_iff_getElem] at hx
   obtain ⟨m,hm,rfl⟩:=hx
   show (0:Int)<=(j:Int)/\(j:Int)<i
   refine ⟨by omega, ?_⟩
   by_cases hmj:j<=m
   ·omega
   ·have:=h2 m (by omega)
    rw [hgx] at this
    exact absurd this (by simp)
theorem qpj{n:Nat}{w:Ws}(h:SzW n w)(hl:w.l.length<1000000000000000):Fun Tryz.prog 47 [wsD w] [i64 (wsE w)] :=by
 have hll:(oL w.l).length=w.l.length:=by simp
 refine qac (fun t=>false) mixed tOk Tryz.func47 rfl rfl ?_
 conv=>whnf
 refine qaa rfl rfl (qrK w.a w.b w.c w.d h.a h.b h.c h.d) ?_
 conv=>whnf
 refine qbb (fun c1=> ?_) (fun c1=> ?_)
 ·have e:wsE w=1:=by unfold wsE;rw [if_pos c1]
  rw [e]
  conv=>whnf
  exact ⟨rfl,trivial⟩
 ·conv=>whnf
  refine qaf (fun c2=> ?_) (fun c2=> ?_)
  ·have e:wsE w=4:=by unfold wsE;rw [if_neg (by rw [c1];decide),if_pos (by omega)]
   rw [e]
   conv=>whnf
   exact ⟨rfl,trivial⟩
  ·have e:wsE w=scE [] w.l:=by unfold wsE;rw [if_neg (by rw [c1];decide),if_neg (by omega)]
   rw [e]
   conv=>whnf
   refine qah (fun t=>false) (fun i:Nat=>⟨fr 45 [(1,.d (.p 0 (wsD w).cells)),(3,.d (i64 i))], []⟩) (fun i=>i<=w.l.length/\scE [] w.l=scE (w.l.take i) (w.l.drop i)) (fun i=>w.l.length-i) 0 mixed tOk ⟨by omega,rfl⟩ ?_ ?_
   ·refine qag ?_ ?_<;>repeat' (first|exact trivial|exact rfl|apply And.intro)
   ·rintro i ⟨hi,hs⟩
    conv=>whnf
    refine qaf (fun hlt=> ?_) (fun hge=> ?_)
    ·have hlt':i<w.l.length:=by omega
     have hsx:=h.l _ (List.getElem_mem hlt')
     rw [List.drop_eq_getElem_cons hlt',scE] at hs
     conv=>whnf
     refine qae (obD w.l[i]) (qdL hlt') (by omega) (qci w.l) ?_
     conv=>whnf
     refine qaa rfl rfl (qiD hsx) ?_
     conv=>whnf
     refine qat (fun k1=> ?_) (fun k1=> ?_)
     ·rw [hs,if_pos k1]
      conv=>whnf
      exact ⟨rfl,trivial⟩
     ·rw [if_neg (fun h=>h k1)] at hs
      conv=>whnf
      refine qae (obD w.l[i]) (qdL hlt') (by omega) (qci w.l) ?_
      conv=>whnf
      refine qab (qv0 w w.l[i].nm hl) ?_
      conv=>whnf
      refine qad (by kernel_rfl) ?_
      conv=>whnf
      have hii:isN w.l[i].nm w.l[i] =true:=decide_eq_true rfl
      have hlo:=qzr (g:=isN w.l[i].nm) hlt' hii
      refine qaf (fun k2=> ?_) (fun k2=> ?_)
      ·rw [hs,if_pos (hlo.1 (by omega))]
       conv=>whnf
       exact ⟨rfl,trivial⟩
      ·rw [if_neg (fun k=>k2 (by have:=hlo.2 k;omega))] at hs
       conv=>whnf
       refine qak (by omega) ?_
       conv=>whnf
       refine ⟨i+1,⟨by omega, ?_⟩,by omega, ?_⟩
       ·rw [hs,List.take_succ_eq_append_getElem hlt']
       rw [Int.natCast_succ]
       refine qag ?_ ?_<;>repeat' (first|exact trivial|exact rfl|apply And.intro)
    ·have hiE:i=w.l.length:=by omega
     subst hiE
     rw [List.drop_length,scE] at hs
     rw [hs]
     conv=>whnf
     exact ⟨rfl,trivial⟩
def lgR(r:RD):Bool:=decide (10<r.num.size)||decide (10<r.den.size)
def lgP(p:RD×RD):Bool:=lgR p.1||lgR p.2
def lgL(l:List (RD×RD)):Bool:=l.any lgP
theorem qhm(ps:List (RD×RD))(hl:ps.length<1000000000000000):Fun Tryz.prog 76 [.l (rL ps)] [.v (.bool (lgL ps))] :=by
 have hll:(rL ps).length=ps.length:=by simp
 have hu:=qhJ ps
 unfold lgL
 refine qac (fun t=>false) mixed tOk Tryz.func76 rfl rfl ?_
 conv=>whnf
 refine qah (fun t=>false) (fun i:Nat=>⟨fr 48 [(0,.d (.l (rL ps))),(3,.d (i64 i))], []⟩) (fun i=>i<=ps.length/\(ps.take i).any lgP=false) (fun i=>ps.length-i) 0 mixed tOk ⟨by omega,rfl⟩ ?_ ?_
 ·refine qag ?_ ?_<;>repeat' (first|exact trivial|exact rfl|apply And.intro)
 ·rintro i ⟨hi,hno⟩
  conv=>whnf
  refine qaf (fun hlt=> ?_) (fun hge=> ?_)
  ·have hlt':i<ps.length:=by omega
   have hg:(rL ps)[(i:Int).toNat]? =some (ptR ps[i].1 ps[i].2):=qh7 hlt'
   have yes:lgP ps[i] =true->ps.any lgP=true:=fun h=>List.any_eq_true.2 ⟨ps[i],List.getElem_mem _,h⟩
   conv=>whnf
   refine qae (ptR ps[i].1 ps[i].2) hg (by omega) hu ?_
   conv=>whnf
   refine qaf (fun k1=> ?_) (fun k1=> ?_)
   ·rw [yes (by unfold lgP lgR;simp;omega)]
    conv=>whnf
    exact ⟨rfl,trivial⟩
   conv=>whnf
   refine qae (ptR ps[i].1 ps[i].2) hg (by omega) hu ?_
   conv=>whnf
   refine qaf (fun k2=> ?_) (fun k2=> ?_)
   ·rw [yes (by unfold lgP lgR;simp;omega)]
    conv=>whnf
    exact ⟨rfl,trivial⟩
   conv=>whnf
   refine qae (ptR ps[i].1 ps[i].2) hg (by omega) hu ?_
   conv=>whnf
   refine qaf (fun k3=> ?_) (fun k3=> ?_)
   ·rw [yes (by unfold lgP lgR;simp;omega)]
    conv=>whnf
    exact ⟨rfl,trivial⟩
   conv=>whnf
   refine qae (ptR ps[i].1 ps[i].2) hg (by omega) hu ?_
   conv=>whnf
   refine qaf (fun k4=> ?_) (fun k4=> ?_)
   ·rw [yes (by unfold lgP lgR;simp;omega)]
    conv=>whnf
    exact ⟨rfl,trivial⟩
   conv=>whnf
   refine qak (by omega) ?_
   conv=>whnf
   refine ⟨i+1,⟨by omega, ?_⟩,by omega, ?_⟩
   ·rw [List.take_succ_eq_append_getElem hlt',List.any_append,hno]
    unfold lgP lgR
    simp
    omega
   rw [Int.natCast_succ]
   refine qag ?_ ?_<;>repeat' (first|exact trivial|exact rfl|apply And.intro)
  ·have:i=ps.length:=by omega
   subst this
   rw [List.take_length] at hno
   rw [hno]
   conv=>whnf
   exact ⟨rfl,trivial⟩
abbrev Pg:=List (RD×RD)×List (List (RD×RD))
noncomputable def gL(l:List Pg):List D:=l.map fun p=>pgR p.1 p.2
@[simp] theorem qtz(l:List Pg):(gL l).length=l.length:=List.length_map ..
theorem qcO(l:List Pg):Uni 2 (gL l):=by
 intro x hx
 obtain ⟨i,_,rfl⟩:=List.mem_map.1 hx
 rfl
theorem qtY{l:List Pg}{i:Nat}(h:i<l.length):(gL l)[(i:Int).toNat]? =some (pgR l[i].1 l[i].2):=by
 unfold gL;simp [h]
def qe4(hs:List (List (RD×RD))):Nat:=(hs.map List.length).sum
def nPg(p:Pg):Nat:=p.1.length+qe4 p.2
def qhX(l:List Pg):Nat:=(l.map nPg).sum
def bdP(p:Pg):Bool:=lgL p.1||decide (9<p.2.length)||p.2.any lgL
@[irreducible] def g20(a b c d:RD)(l:List Pg):Bool:=decide ((4<l.length/\l.length<=32)\/34<l.length)||lgL [(a,b),(c,d)] ||l.any bdP||decide (14<qhX l)
structure qwN (p:Pg):Prop where
 o:p.1.length<1000000000000000
 h:p.2.length<1000000000000000
 l: ∀x∈p.2,x.length<1000000000000000
theorem qji: ∀(hs:List (List (RD×RD))),(∀x∈hs,x.length<1000000000000000)->qe4 hs<=hs.length*1000000000000000
 | [],_=>by simp [qe4]
 |x::t,h=>by
  have ih:=qji t (fun y hy=>h y (List.mem_cons_of_mem _ hy))
  have:=h x (List.mem_cons_self ..)
  unfold qe4 at ih ⊢
  rw [List.map_cons,List.sum_cons,List.length_cons]
  omega
theorem qnf(a b:List (List (RD×RD))):qe4 (a++b)=qe4 a+qe4 b:=by
 unfold qe4;rw [List.map_append,List.sum_append_nat]
theorem qmJ(a b:List Pg):qhX (a++b)=qhX a+qhX b:=by
 unfold qhX;rw [List.map_append,List.sum_append_nat]
theorem qlR: ∀(l:List Pg),(∀p∈l,qwN p)->l.any bdP=false->qhX l<=l.length*10000000000000000
 | [],_,_=>by simp [qhX]
 |x::t,h,hb=>by
  rw [List.any_cons,Bool.or_eq_false_iff] at hb
  have ih:=qlR t (fun y hy=>h y (List.mem_cons_of_mem _ hy)) hb.2
  have hx:=h x (List.mem_cons_self ..)
  have:=hx.o
  have h2:=qji x.2 hx.l
  have hb1:=hb.1
  unfold bdP at hb1
  simp only [Bool.or_eq_false_iff,decide_eq_false_iff_not] at hb1
  have h3:=hb1.1.2
  unfold qhX at ih ⊢
  rw [List.map_cons,List.sum_cons,List.length_cons]
  rw [show nPg x=x.1.length+qe4 x.2 from rfl]
  have h4:x.2.length*1000000000000000<=9*1000000000000000:=Nat.mul_le_mul_right _ (by omega)
  omega
theorem qfE(a b c d:RD)(l:List Pg)(hl:l.length<1000000000000000)(h: ∀p∈l,qwN p):Fun Tryz.prog 23 [quR a b c d,.l (gL l)] [.v (.bool (g20 a b c d l))] :=by
 have hll:(gL l).length=l.length:=by simp
 have hbx:=qhm [(a,b),(c,d)] (by simp)
 refine qac (fun t=>false) mixed tOk Tryz.func23 rfl rfl ?_
 conv=>whnf
 refine qaf (fun d1=> ?_) (fun d1=> ?_)
 ·conv=>whnf
  refine qaf (fun d2=> ?_) (fun d2=> ?_)
  ·conv=>whnf
   rw [show g20 a b c d l=true by unfold g20;rw [decide_eq_true (by omega)];rfl]
   exact ⟨rfl,trivial⟩
  ·conv=>whnf
   refine qaf (fun d3=> ?_) (fun d3=> ?_)
   ·conv=>whnf
    rw [show g20 a b c d l=true by unfold g20;rw [decide_eq_true (by omega)];rfl]
    exact ⟨rfl,trivial⟩
   ·have Z0: ¬((4<l.length/\l.length<=32)\/34<l.length):=by omega
    conv=>whnf
    refine qaa rfl rfl hbx ?_
    conv=>whnf
    refine qal (fun c1=> ?_) (fun c1=> ?_)
    ·rw [show g20 a b c d l=true by unfold g20;rw [c1];simp]
     conv=>whnf
     exact ⟨rfl,trivial⟩
    ·conv=>whnf
     have hb14:(l.any bdP=true->g20 a b c d l=true):=fun k=>by unfold g20;rw [k];simp
     refine qah (fun t=>false) (fun i:Nat=>⟨fr 90 [(1,.d (.l (gL l))),(5,.d (i64 (qhX (l.take i):Nat))),(6,.d (i64 i))], []⟩) (fun i=>i<=l.length/\(l.take i).any bdP=false) (fun i=>l.length-i) 0 mixed tOk ⟨by omega,rfl⟩ ?_ ?_
     ·refine qag ?_ ?_<;>repeat' (first|exact trivial|exact rfl|apply And.intro)
     ·rintro i ⟨hi,hno⟩
      have hgs:=qlR (l.take i) (fun p hp=>h p (List.mem_of_mem_take hp)) hno
      have hti:(l.take i).length=i:=by rw [List.length_take];omega
      rw [hti] at hgs
      conv=>whnf
      refine qaf (fun hlt=> ?_) (fun hge=> ?_)
      ·have hlt':i<l.length:=by omega
       have hp:=h _ (List.getElem_mem hlt')
       have hget:=qtY hlt'
       have hts:qhX (l.take (i+1))=qhX (l.take i)+nPg l[i] :=by
        rw [List.take_succ_eq_append_getElem hlt',qmJ];simp [qhX]
       have htb:(l.take (i+1)).any bdP=bdP l[i] :=by
        rw [List.take_succ_eq_append_getElem hlt',List.any_append,hno];simp
       have yes:bdP l[i] =true->l.any bdP=true:=fun k=>List.any_eq_true.2 ⟨l[i],List.getElem_mem _,k⟩
       generalize qhX (l.take i)=G at*
       generalize l[i] =p at*
       obtain ⟨o,hs⟩:=p
       have hpo:=hp.o
       have hph:=hp.h
       have hpl:=hp.l
       simp only at hpo hph hpl hget
       have hlo:(rL o).length=o.length:=by simp
       have hlh:(hR hs).length=hs.length:=by simp
       conv=>whnf
       refine qae (pgR o hs) hget (by omega) (qcO _) ?_
       conv=>whnf
       refine qak (by omega) ?_
       conv=>whnf
       refine qae (pgR o hs) hget (by omega) (qcO _) ?_
       conv=>whnf
       refine qaa rfl rfl (qhm o hpo) ?_
       conv=>whnf
       refine qal (fun k1=> ?_) (fun k1=> ?_)
       ·rw [hb14 (yes (by unfold bdP;rw [k1];rfl))]
        conv=>whnf
        exact ⟨rfl,trivial⟩
       ·conv=>whnf
        refine qae (pgR o hs) hget (by omega) (qcO _) ?_
        conv=>whnf
        refine qaf (fun k2=> ?_) (fun k2=> ?_)
        ·rw [hb14 (yes (by unfold bdP;simp only;rw [k1,decide_eq_true (by omega)];rfl))]
         conv=>whnf
         exact ⟨rfl,trivial⟩
        ·conv=>whnf
         have hnp:nPg (o,hs)=o.length+qe4 hs:=rfl
         have hany:hs.any lgL=true->l.any bdP=true:=fun k=>yes (by unfold bdP;simp only;rw [k];simp)
         refine qah (fun t=>false) (fun k:Nat=>⟨fr 90 [(1,.d (.l (gL l))),(5,.d (i64 (G+o.length+qe4 (hs.take k):Nat))),(6,.d (i64 i)),(7,.d (i64 k))], []⟩) (fun k=>k<=hs.length/\(hs.take k).any lgL=false) (fun k=>hs.length-k) 0 mixed tOk ⟨by omega,rfl⟩ ?_ ?_
         ·rw [show ((G+o.length+qe4 (hs.take 0):Nat):Int)=(G:Int)+((rL o).length:Int) by rw [show qe4 (hs.take 0)=0 from rfl];omega]
          refine qag ?_ ?_<;>repeat' (first|exact trivial|exact rfl|apply And.intro)
         ·rintro k ⟨hk,hnk⟩
          have hsl:=qji (hs.take k) (fun x hx=>hpl x (List.mem_of_mem_take hx))
          have htk:(hs.take k).length=k:=by rw [List.length_take];omega
          rw [htk] at hsl
          have hk9:k*1000000000000000<=9*1000000000000000:=Nat.mul_le_mul_right _ (by omega)
          conv=>whnf
          refine qae (pgR o hs) hget (by omega) (qcO _) ?_
          conv=>whnf
          refine qaf (fun hlt2=> ?_) (fun hge2=> ?_)
          ·have hk':k<hs.length:=by omega
           have hx:=hpl _ (List.getElem_mem hk')
           have hxl:(rL hs[k]).length=hs[k].length:=by simp
           have hts2:qe4 (hs.take (k+1))=qe4 (hs.take k)+hs[k].length:=by
            rw [List.take_succ_eq_append_getElem hk',qnf];simp [qe4]
           have htb2:(hs.take (k+1)).any lgL=lgL hs[k] :=by
            rw [List.take_succ_eq_append_getElem hk',List.any_append,hnk];simp
           have hget2:=qgb hk'
           have hyes:lgL hs[k] =true->hs.any lgL=true:=fun q=>List.any_eq_true.2 ⟨hs[k],List.getElem_mem _,q⟩
           generalize hs[k] =x at*
           conv=>whnf
           refine qae (pgR o hs) hget (by omega) (qcO _) ?_
           conv=>whnf
           refine qae (.l (rL x)) hget2 (by omega) (qcJ _) ?_
           conv=>whnf
           refine qak (by omega) ?_
           conv=>whnf
           refine qae (pgR o hs) hget (by omega) (qcO _) ?_
           conv=>whnf
           refine qae (.l (rL x)) hget2 (by omega) (qcJ _) ?_
           conv=>whnf
           refine qaa rfl rfl (qhm x hx) ?_
           conv=>whnf
           refine qal (fun q=> ?_) (fun q=> ?_)
           ·rw [hb14 (hany (hyes q))]
            conv=>whnf
            exact ⟨rfl,trivial⟩
           ·conv=>whnf
            refine qak (by omega) ?_
            conv=>whnf
            refine ⟨k+1,⟨by omega,by rw [htb2];exact q⟩,by omega, ?_⟩
            rw [hts2,show ((G+o.length+(qe4 (hs.take k)+x.length):Nat):Int)=((G+o.length+qe4 (hs.take k):Nat):Int)+((rL x).length:Int) by omega,Int.natCast_succ]
            refine qag ?_ ?_<;>repeat' (first|exact trivial|exact rfl|apply And.intro)
          ·have hkE:k=hs.length:=by omega
           subst hkE
           rw [List.take_length] at hnk ⊢
           conv=>whnf
           refine qak (by omega) ?_
           conv=>whnf
           refine ⟨i+1,⟨by omega, ?_⟩,by omega, ?_⟩
           ·rw [htb]
            unfold bdP
            simp only
            rw [k1,hnk,decide_eq_false (by omega)]
            rfl
           rw [hts,hnp, <-Nat.add_assoc,Int.natCast_succ]
           refine qag ?_ ?_<;>repeat' (first|exact trivial|exact rfl|apply And.intro)
      ·have hiE:i=l.length:=by omega
       subst hiE
       rw [List.take_length] at hno ⊢
       have e:g20 a b c d l=decide (14<qhX l):=by
        unfold g20
        rw [decide_eq_false Z0,c1,hno];rfl
       rw [e]
       conv=>whnf
       refine ⟨?_,trivial⟩
       conv=>whnf
       rw [qay,decide_eq_decide]
       omega
 ·conv=>whnf
  refine qaf (fun d3=> ?_) (fun d3=> ?_)
  ·exact absurd d3 (by omega)
  ·have Z0: ¬((4<l.length/\l.length<=32)\/34<l.length):=by omega
   conv=>whnf
   refine qaa rfl rfl hbx ?_
   conv=>whnf
   refine qal (fun c1=> ?_) (fun c1=> ?_)
   ·rw [show g20 a b c d l=true by unfold g20;rw [c1];simp]
    conv=>whnf
    exact ⟨rfl,trivial⟩
   ·conv=>whnf
    have hb14:(l.any bdP=true->g20 a b c d l=true):=fun k=>by unfold g20;rw [k];simp
    refine qah (fun t=>false) (fun i:Nat=>⟨fr 90 [(1,.d (.l (gL l))),(5,.d (i64 (qhX (l.take i):Nat))),(6,.d (i64 i))], []⟩) (fun i=>i<=l.length/\(l.take i).any bdP=false) (fun i=>l.length-i) 0 mixed tOk ⟨by omega,rfl⟩ ?_ ?_
    ·refine qag ?_ ?_<;>repeat' (first|exact trivial|exact rfl|apply And.intro)
    ·rintro i ⟨hi,hno⟩
     have hgs:=qlR (l.take i) (fun p hp=>h p (List.mem_of_mem_take hp)) hno
     have hti:(l.take i).length=i:=by rw [List.length_take];omega
     rw [hti] at hgs
     conv=>whnf
     refine qaf (fun hlt=> ?_) (fun hge=> ?_)
     ·have hlt':i<l.length:=by omega
      have hp:=h _ (List.getElem_mem hlt')
      have hget:=qtY hlt'
      have hts:qhX (l.take (i+1))=qhX (l.take i)+nPg l[i] :=by
       rw [List.take_succ_eq_append_getElem hlt',qmJ];simp [qhX]
      have htb:(l.take (i+1)).any bdP=bdP l[i] :=by
       rw [List.take_succ_eq_append_getElem hlt',List.any_append,hno];simp
      have yes:bdP l[i] =true->l.any bdP=true:=fun k=>List.any_eq_true.2 ⟨l[i],List.getElem_mem _,k⟩
      generalize qhX (l.take i)=G at*
      generalize l[i] =p at*
      obtain ⟨o,hs⟩:=p
      have hpo:=hp.o
      have hph:=hp.h
      have hpl:=hp.l
      simp only at hpo hph hpl hget
      have hlo:(rL o).length=o.length:=by simp
      have hlh:(hR hs).length=hs.length:=by simp
      conv=>whnf
      refine qae (pgR o hs) hget (by omega) (qcO _) ?_
      conv=>whnf
      refine qak (by omega) ?_
      conv=>whnf
      refine qae (pgR o hs) hget (by omega) (qcO _) ?_
      conv=>whnf
      refine qaa rfl rfl (qhm o hpo) ?_
      conv=>whnf
      refine qal (fun k1=> ?_) (fun k1=> ?_)
      ·rw [hb14 (yes (by unfold bdP;rw [k1];rfl))]
       conv=>whnf
       exact ⟨rfl,trivial⟩
      ·conv=>whnf
       refine qae (pgR o hs) hget (by omega) (qcO _) ?_
       conv=>whnf
       refine qaf (fun k2=> ?_) (fun k2=> ?_)
       ·rw [hb14 (yes (by unfold bdP;simp only;rw [k1,decide_eq_true (by omega)];rfl))]
        conv=>whnf
        exact ⟨rfl,trivial⟩
       ·conv=>whnf
        have hnp:nPg (o,hs)=o.length+qe4 hs:=rfl
        have hany:hs.any lgL=true->l.any bdP=true:=fun k=>yes (by unfold bdP;simp only;rw [k];simp)
        refine qah (fun t=>false) (fun k:Nat=>⟨fr 90 [(1,.d (.l (gL l))),(5,.d (i64 (G+o.length+qe4 (hs.take k):Nat))),(6,.d (i64 i)),(7,.d (i64 k))], []⟩) (fun k=>k<=hs.length/\(hs.take k).any lgL=false) (fun k=>hs.length-k) 0 mixed tOk ⟨by omega,rfl⟩ ?_ ?_
        ·rw [show ((G+o.length+qe4 (hs.take 0):Nat):Int)=(G:Int)+((rL o).length:Int) by rw [show qe4 (hs.take 0)=0 from rfl];omega]
         refine qag ?_ ?_<;>repeat' (first|exact trivial|exact rfl|apply And.intro)
        ·rintro k ⟨hk,hnk⟩
         have hsl:=qji (hs.take k) (fun x hx=>hpl x (List.mem_of_mem_take hx))
         have htk:(hs.take k).length=k:=by rw [List.length_take];omega
         rw [htk] at hsl
         have hk9:k*1000000000000000<=9*1000000000000000:=Nat.mul_le_mul_right _ (by omega)
         conv=>whnf
         refine qae (pgR o hs) hget (by omega) (qcO _) ?_
         conv=>whnf
         refine qaf (fun hlt2=> ?_) (fun hge2=> ?_)
         ·have hk':k<hs.length:=by omega
          have hx:=hpl _ (List.getElem_mem hk')
          have hxl:(rL hs[k]).length=hs[k].length:=by simp
          have hts2:qe4 (hs.take (k+1))=qe4 (hs.take k)+hs[k].length:=by
           rw [List.take_succ_eq_append_getElem hk',qnf];simp [qe4]
          have htb2:(hs.take (k+1)).any lgL=lgL hs[k] :=by
           rw [List.take_succ_eq_append_getElem hk',List.any_append,hnk];simp
          have hget2:=qgb hk'
          have hyes:lgL hs[k] =true->hs.any lgL=true:=fun q=>List.any_eq_true.2 ⟨hs[k],List.getElem_mem _,q⟩
          generalize hs[k] =x at*
          conv=>whnf
          refine qae (pgR o hs) hget (by omega) (qcO _) ?_
          conv=>whnf
          refine qae (.l (rL x)) hget2 (by omega) (qcJ _) ?_
          conv=>whnf
          refine qak (by omega) ?_
          conv=>whnf
          refine qae (pgR o hs) hget (by omega) (qcO _) ?_
          conv=>whnf
          refine qae (.l (rL x)) hget2 (by omega) (qcJ _) ?_
          conv=>whnf
          refine qaa rfl rfl (qhm x hx) ?_
          conv=>whnf
          refine qal (fun q=> ?_) (fun q=> ?_)
          ·rw [hb14 (hany (hyes q))]
           conv=>whnf
           exact ⟨rfl,trivial⟩
          ·conv=>whnf
           refine qak (by omega) ?_
           conv=>whnf
           refine ⟨k+1,⟨by omega,by rw [htb2];exact q⟩,by omega, ?_⟩
           rw [hts2,show ((G+o.length+(qe4 (hs.take k)+x.length):Nat):Int)=((G+o.length+qe4 (hs.take k):Nat):Int)+((rL x).length:Int) by omega,Int.natCast_succ]
           refine qag ?_ ?_<;>repeat' (first|exact trivial|exact rfl|apply And.intro)
         ·have hkE:k=hs.length:=by omega
          subst hkE
          rw [List.take_length] at hnk ⊢
          conv=>whnf
          refine qak (by omega) ?_
          conv=>whnf
          refine ⟨i+1,⟨by omega, ?_⟩,by omega, ?_⟩
          ·rw [htb]
           unfold bdP
           simp only
           rw [k1,hnk,decide_eq_false (by omega)]
           rfl
          rw [hts,hnp, <-Nat.add_assoc,Int.natCast_succ]
          refine qag ?_ ?_<;>repeat' (first|exact trivial|exact rfl|apply And.intro)
     ·have hiE:i=l.length:=by omega
      subst hiE
      rw [List.take_length] at hno ⊢
      have e:g20 a b c d l=decide (14<qhX l):=by
       unfold g20
       rw [decide_eq_false Z0,c1,hno];rfl
      rw [e]
      conv=>whnf
      refine ⟨?_,trivial⟩
      conv=>whnf
      rw [qay,decide_eq_decide]
      omega
def pgO(x:Ob):Pg:=(x.o,x.hs)
def nG(x:Ob):Nat:=x.o.length+9*x.hs.length
def aG(l:List Ob):Nat:=(l.map nG).sum
theorem qyF(a b:List Ob):aG (a++b)=aG a+aG b:=by
 unfold aG;rw [List.map_append,List.sum_append_nat]
def scG(a b c d:RD):Nat->List Ob->Bool
 |_, [] =>false
 |n,x::t=>if 100<n+nG x\/g20 a b c d [pgO x] =true then true else scG a b c d (n+nG x) t
@[irreducible] def g35(w:Ws):Bool:=if 31<w.l.length/\w.l.length<=33 then scG w.a w.b w.c w.d 0 w.l else decide (4<w.l.length)||g20 w.a w.b w.c w.d (w.l.map pgO)
theorem qqJ(w:Ws)(hl:w.l.length<=2199023255552)(h: ∀x∈w.l,qwN (pgO x)):Fun Tryz.prog 35 [wsD w] [.v (.bool (g35 w))] :=by
 have hll:(oL w.l).length=w.l.length:=by simp
 refine qac (fun t=>t==5||t==50) mixed tOk Tryz.func35 rfl rfl ?_
 conv=>whnf
 refine qaf (fun d1=> ?_) (fun d1=> ?_)
 ·conv=>whnf
  refine qaf (fun d2=> ?_) (fun d2=> ?_)
  ·have e:g35 w=scG w.a w.b w.c w.d 0 w.l:=by unfold g35;rw [if_pos (by omega)]
   rw [e]
   conv=>whnf
   refine qah (fun t=>t==5||t==50) (fun i:Nat=>⟨fr 77 [(1,.d (.p 0 (wsD w).cells)),(3,.d (i64 (aG (w.l.take i):Nat))),(4,.d (i64 i))], []⟩) (fun i=>i<=w.l.length/\scG w.a w.b w.c w.d 0 w.l=scG w.a w.b w.c w.d (aG (w.l.take i)) (w.l.drop i)/\aG (w.l.take i)<=100) (fun i=>w.l.length-i) 0 mixed tOk ⟨by omega,rfl,by show 0<=100;omega⟩ ?_ ?_
   ·refine qag ?_ ?_<;>repeat' (first|exact trivial|exact rfl|apply And.intro)
   ·rintro i ⟨hi,hs,ha⟩
    conv=>whnf
    refine qaf (fun hlt=> ?_) (fun hge=> ?_)
    ·have hlt':i<w.l.length:=by omega
     have hx:=h _ (List.getElem_mem hlt')
     have hget:=qdL hlt'
     have hta:aG (w.l.take (i+1))=aG (w.l.take i)+nG w.l[i] :=by
      rw [List.take_succ_eq_append_getElem hlt',qyF];simp [aG]
     rw [List.drop_eq_getElem_cons hlt',scG] at hs
     generalize aG (w.l.take i)=A at*
     generalize w.l[i] =x at*
     have hxo:=hx.o
     have hxh:=hx.h
     simp only [pgO] at hxo hxh
     have hlo:(rL x.o).length=x.o.length:=by simp
     have hlh:(hR x.hs).length=x.hs.length:=by simp
     have hnx:nG x=x.o.length+9*x.hs.length:=rfl
     conv=>whnf
     refine qae (obD x) hget (by omega) (qci w.l) ?_
     conv=>whnf
     refine qak (by omega) ?_
     conv=>whnf
     refine qak (by omega) ?_
     conv=>whnf
     refine qak (by omega) ?_
     conv=>whnf
     refine qaf (fun k1=> ?_) (fun k1=> ?_)
     ·rw [hs,if_pos (.inl (by omega))]
      conv=>whnf
      exact ⟨rfl,trivial⟩
     ·conv=>whnf
      refine qaa rfl rfl (qfE w.a w.b w.c w.d [pgO x] (by simp) (fun p hp=>by rw [List.mem_singleton.1 hp];exact hx)) ?_
      conv=>whnf
      refine qal (fun k2=> ?_) (fun k2=> ?_)
      ·rw [hs,if_pos (.inr k2)]
       conv=>whnf
       exact ⟨rfl,trivial⟩
      ·rw [if_neg (fun q=>q.elim (fun q=>by omega) (fun q=>absurd q (by rw [k2];decide)))] at hs
       conv=>whnf
       refine qak (by omega) ?_
       conv=>whnf
       refine ⟨i+1,⟨by omega,by rw [hta];exact hs,by omega⟩,by omega, ?_⟩
       rw [hta,hnx,show ((A+(x.o.length+9*x.hs.length):Nat):Int)=(A:Int)+(((rL x.o).length:Int)+9*((hR x.hs).length:Int)) by omega,Int.natCast_succ]
       refine qaj 0 rfl ?_
       refine qag ?_ ?_<;>repeat' (first|exact trivial|exact rfl|apply And.intro)
    ·have hiE:i=w.l.length:=by omega
     subst hiE
     rw [List.drop_length,scG] at hs
     rw [hs]
     conv=>whnf
     exact ⟨rfl,trivial⟩
  ·have Z0: ¬(31<w.l.length/\w.l.length<=33):=by omega
   have e:g35 w=(decide (4<w.l.length)||g20 w.a w.b w.c w.d (w.l.map pgO)):=by unfold g35;rw [if_neg Z0]
   rw [e]
   conv=>whnf
   refine qah (fun t=>t==5||t==50) (fun i:Nat=>⟨fr 77 [(1,.d (.p 0 (wsD w).cells)),(6,.own 0 0),(7,.d (i64 i))], [.row 0 43 2 48 (gL ((w.l.take i).map pgO))]⟩) (fun i=>i<=w.l.length) (fun i=>w.l.length-i) 0 mixed tOk (by omega) ?_ ?_
   ·refine qag ?_ ?_<;>repeat' (first|exact trivial|exact rfl|apply And.intro)
   ·intro i hi
    conv=>whnf
    refine qaf (fun hlt=> ?_) (fun hge=> ?_)
    ·have hlt':i<w.l.length:=by omega
     conv=>whnf
     refine qae (obD w.l[i]) (qdL hlt') (by omega) (qci w.l) ?_
     conv=>whnf
     have hgl:(gL ((w.l.take i).map pgO)).length=i:=by rw [qtz,List.length_map,List.length_take];omega
     refine qcW (qcO _) (by intro x hx;rcases List.mem_singleton.1 hx with rfl;rfl) (by rw [hgl];simp only [maxLen,List.length_cons,List.length_nil];omega) ?_
     conv=>whnf
     refine qak (by omega) ?_
     conv=>whnf
     refine ⟨i+1,by omega,by omega, ?_⟩
     rw [show gL ((w.l.take (i+1)).map pgO)=gL ((w.l.take i).map pgO)++ [pgR w.l[i].o w.l[i].hs] by
      rw [List.take_succ_eq_append_getElem hlt',List.map_append];unfold gL;rw [List.map_append];rfl,Int.natCast_succ]
     refine qag ?_ ?_<;>repeat' (first|exact trivial|exact rfl|apply And.intro)
    ·have hiE:i=w.l.length:=by omega
     subst hiE
     rw [List.take_length]
     conv=>whnf
     refine qaf (fun k1=> ?_) (fun k1=> ?_)
     ·have e4:decide (4<w.l.length)=true:=decide_eq_true (by omega)
      rw [e4]
      conv=>whnf
      exact ⟨rfl,trivial⟩
     ·have e4:decide (4<w.l.length)=false:=decide_eq_false (by omega)
      rw [e4,Bool.false_or]
      conv=>whnf
      refine qbO 0 ?_
      refine qaa rfl rfl (qfE w.a w.b w.c w.d (w.l.map pgO) (by rw [List.length_map];omega) (fun p hp=>by obtain ⟨x,hx,rfl⟩:=List.mem_map.1 hp;exact h x hx)) ?_
      conv=>whnf
      refine ⟨?_,trivial⟩
      conv=>whnf
 ·have Z0: ¬(31<w.l.length/\w.l.length<=33):=by omega
  have e:g35 w=(decide (4<w.l.length)||g20 w.a w.b w.c w.d (w.l.map pgO)):=by unfold g35;rw [if_neg Z0]
  rw [e]
  conv=>whnf
  refine qah (fun t=>t==5||t==50) (fun i:Nat=>⟨fr 77 [(1,.d (.p 0 (wsD w).cells)),(6,.own 0 0),(7,.d (i64 i))], [.row 0 43 2 48 (gL ((w.l.take i).map pgO))]⟩) (fun i=>i<=w.l.length) (fun i=>w.l.length-i) 0 mixed tOk (by omega) ?_ ?_
  ·refine qag ?_ ?_<;>repeat' (first|exact trivial|exact rfl|apply And.intro)
  ·intro i hi
   conv=>whnf
   refine qaf (fun hlt=> ?_) (fun hge=> ?_)
   ·have hlt':i<w.l.length:=by omega
    conv=>whnf
    refine qae (obD w.l[i]) (qdL hlt') (by omega) (qci w.l) ?_
    conv=>whnf
    have hgl:(gL ((w.l.take i).map pgO)).length=i:=by rw [qtz,List.length_map,List.length_take];omega
    refine qcW (qcO _) (by intro x hx;rcases List.mem_singleton.1 hx with rfl;rfl) (by rw [hgl];simp only [maxLen,List.length_cons,List.length_nil];omega) ?_
    conv=>whnf
    refine qak (by omega) ?_
    conv=>whnf
    refine ⟨i+1,by omega,by omega, ?_⟩
    rw [show gL ((w.l.take (i+1)).map pgO)=gL ((w.l.take i).map pgO)++ [pgR w.l[i].o w.l[i].hs] by
     rw [List.take_succ_eq_append_getElem hlt',List.map_append];unfold gL;rw [List.map_append];rfl,Int.natCast_succ]
    refine qag ?_ ?_<;>repeat' (first|exact trivial|exact rfl|apply And.intro)
   ·have hiE:i=w.l.length:=by omega
    subst hiE
    rw [List.take_length]
    conv=>whnf
    refine qaf (fun k1=> ?_) (fun k1=> ?_)
    ·have e4:decide (4<w.l.length)=true:=decide_eq_true (by omega)
     rw [e4]
     conv=>whnf
     exact ⟨rfl,trivial⟩
    ·have e4:decide (4<w.l.length)=false:=decide_eq_false (by omega)
     rw [e4,Bool.false_or]
     conv=>whnf
     refine qbO 0 ?_
     refine qaa rfl rfl (qfE w.a w.b w.c w.d (w.l.map pgO) (by rw [List.length_map];omega) (fun p hp=>by obtain ⟨x,hx,rfl⟩:=List.mem_map.1 hp;exact h x hx)) ?_
     conv=>whnf
     refine ⟨?_,trivial⟩
     conv=>whnf
@[irreducible] def smW(w:Ws):Bool:= !g35 w&&decide (w.l.length<=4)
theorem qlV: ∀(l:List Nat) (n:Nat),n∈l->n<=l.sum
 | [],_,h=>by simp at h
 |x::t,n,h=>by
  rw [List.sum_cons]
  rcases List.mem_cons.1 h with rfl|h
  ·omega
  ·have:=qlV t n h;omega
theorem qiC{r:RD}(h:lgR r=false):Sz r:=by
 unfold lgR at h
 simp at h
 exact ⟨by omega,by omega⟩
theorem qyJ{r:RD}(h:lgR r=false):gtR r=false:=by
 unfold lgR at h
 unfold gtR
 simp at h ⊢
 omega
theorem qsW{r:RD}(h:lgR r=false):Bd 12 r.val:=qx6 (qyJ h)
theorem qt9{p:RD×RD}(h:lgP p=false):BP 12 (vP p)/\SzP p:=by
 unfold lgP at h
 rw [Bool.or_eq_false_iff] at h
 exact ⟨⟨qsW h.1,qsW h.2⟩,qiC h.1,qiC h.2⟩
theorem qqk{w:Ws}(h:g35 w=false)(hl:w.l.length<=4):SzW 12 w:=by
 unfold g35 at h
 rw [if_neg (by omega),Bool.or_eq_false_iff] at h
 have h2:=h.2
 unfold g20 at h2
 simp only [Bool.or_eq_false_iff] at h2
 obtain ⟨⟨⟨_,hb⟩,hp⟩,hs⟩:=h2
 have hs:=of_decide_eq_false hs
 unfold lgL at hb
 simp only [List.any_cons,List.any_nil,Bool.or_false,Bool.or_eq_false_iff,lgP] at hb
 refine ⟨qiC hb.1.1,qiC hb.1.2,qiC hb.2.1,qiC hb.2.2,fun x hx=> ?_⟩
 rw [List.any_eq_false] at hp
 have hx2:=hp (pgO x) (List.mem_map.2 ⟨x,hx,rfl⟩)
 have hx3:bdP (pgO x)=false:=by simpa using hx2
 unfold bdP at hx3
 simp only [Bool.or_eq_false_iff,decide_eq_false_iff_not] at hx3
 obtain ⟨⟨k1,k2⟩,k3⟩:=hx3
 have hle: ∀(l:List Pg) (p:Pg),p∈l->nPg p<=qhX l:=fun l p hp=>by
  unfold qhX
  exact qlV _ _ (List.mem_map.2 ⟨p,hp,rfl⟩)
 have hn:=hle _ _ (List.mem_map.2 ⟨x,hx,rfl⟩:pgO x∈w.l.map pgO)
 have hn2:nPg (pgO x)=x.o.length+qe4 x.hs:=rfl
 have hle2: ∀y∈x.hs,y.length<=qe4 x.hs:=fun y hy=>by
  unfold qe4
  exact qlV _ _ (List.mem_map.2 ⟨y,hy,rfl⟩)
 refine ⟨by omega,fun p hp=> ?_,fun y hy p hp=> ?_,by omega,by have k4: ¬9<x.hs.length:=k2;omega,fun y hy=>by have:=hle2 y hy;omega⟩
 ·unfold lgL at k1
  rw [List.any_eq_false] at k1
  exact qt9 (by simpa using k1 p hp)
 ·rw [List.any_eq_false] at k3
  have:=k3 y hy
  unfold lgL at this
  rw [Bool.not_eq_true,List.any_eq_false] at this
  exact qt9 (by simpa using this p hp)
theorem qwL(w:Ws)(hl:w.l.length<=2199023255552)(h: ∀x∈w.l,qwN (pgO x)):Fun Tryz.prog 11 [wsD w] [.v (.bool (smW w&&decide (wsE w=0)))] :=by
 have hll:(oL w.l).length=w.l.length:=by simp
 refine qac (fun t=>false) mixed tOk Tryz.func11 rfl rfl ?_
 conv=>whnf
 refine qaa rfl rfl (qqJ w hl h) ?_
 conv=>whnf
 refine qbb (fun c1=> ?_) (fun c1=> ?_)
 ·conv=>whnf
  refine qaf (fun c2=> ?_) (fun c2=> ?_)
  ·have hz:=qqk c1 (by omega)
   conv=>whnf
   refine qaa rfl rfl (qpj hz (by omega)) ?_
   conv=>whnf
   refine ⟨?_,trivial⟩
   conv=>whnf
   unfold smW
   rw [c1,decide_eq_true (show w.l.length<=4 by omega),qay]
   rfl
  ·conv=>whnf
   refine ⟨?_,trivial⟩
   conv=>whnf
   unfold smW
   rw [decide_eq_false (show¬w.l.length<=4 by omega),Bool.and_false,Bool.false_and]
 ·conv=>whnf
  refine ⟨?_,trivial⟩
  conv=>whnf
  unfold smW
  rw [c1];rfl
theorem qsh{w:Ws}(h:wsE w=0):vbB w.a w.b w.c w.d=true/\w.l.length<=32/\scE [] w.l=0:=by
 unfold wsE at h
 split at h
 ·exact absurd h (by decide)
 ·rename_i k
  split at h
  ·exact absurd h (by decide)
  ·exact ⟨by simpa using k,by omega,h⟩
end Go.Nv
end
