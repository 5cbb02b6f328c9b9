import Derived.Test.YtlmmifgminkdkaaGreatNxD10
set_option linter.all false
set_option maxRecDepth 100000
section
namespace Go.Nv
open Go.Proofs Nw
theorem quS(l:List (RD×RD))(hl:l.length<=100000):Fun Tryz.prog 91 [.l (rL l),.l (rL l)] [.v (.bool true)] :=by
 have hll:(rL l).length=l.length:=by simp
 refine qad (fun t=>false) mixed tOk Tryz.func91 rfl rfl ?_
 conv=>whnf
 refine qav (fun h=>absurd rfl h) (fun _=> ?_)
 conv=>whnf
 refine qah (fun t=>false) (fun i:Nat=>⟨fr 26 [(0,.d (.l (rL l))),(1,.d (.l (rL l))),(5,.d (i64 i))], []⟩) (fun i=>i<=l.length) (fun i=>l.length-i) 0 mixed tOk (by omega) ?_ ?_
 ·refine qag ?_ ?_<;>repeat' (first|exact trivial|exact rfl|apply And.intro)
 ·intro i hi
  conv=>whnf
  refine qaf (fun hlt=> ?_) (fun hge=> ?_)
  ·have hlt':i<l.length:=by omega
   have hg:(rL l)[((i:Nat):Int).toNat]? =some (pR l[i]):=qnu hlt'
   conv=>whnf
   refine qae (pR l[i]) hg (by omega) (qk2 _) ?_
   conv=>whnf
   refine qae (pR l[i]) hg (by omega) (qk2 _) ?_
   conv=>whnf
   refine qac (by kernel_rfl) ?_
   conv=>whnf
   refine qa1 (nqP _) ?_
   conv=>whnf
   refine qak (by omega) ?_
   conv=>whnf
   refine ⟨i+1,by omega,by omega, ?_⟩
   rw [Int.natCast_succ]
   refine qag ?_ ?_<;>repeat' (first|exact trivial|exact rfl|apply And.intro)
  ·conv=>whnf
   refine ⟨?_,trivial⟩
   conv=>whnf
theorem qwC{n:Nat}{x:Ob}(h:SzO n x):Fun Tryz.prog 33 [pgR x.o x.hs,pgR x.o x.hs] [.v (.bool true)] :=by
 have h1:=h.lo
 have h2:=h.lh
 have hll:(hR x.hs).length=x.hs.length:=by simp
 refine qad (fun t=>false) mixed tOk Tryz.func33 rfl rfl ?_
 conv=>whnf
 refine qaa rfl rfl (quS x.o (by omega)) ?_
 conv=>whnf
 refine qav (fun h=>absurd rfl h) (fun _=> ?_)
 conv=>whnf
 refine qah (fun t=>false) (fun i:Nat=>⟨fr 40 [(2,.d (.p 0 (pgR x.o x.hs).cells)),(3,.d (.p 0 (pgR x.o x.hs).cells)),(5,.d (i64 i))], []⟩) (fun i=>i<=x.hs.length) (fun i=>x.hs.length-i) 0 mixed tOk (by omega) ?_ ?_
 ·refine qag ?_ ?_<;>repeat' (first|exact trivial|exact rfl|apply And.intro)
 ·intro i hi
  conv=>whnf
  refine qaf (fun hlt=> ?_) (fun hge=> ?_)
  ·have hlt':i<x.hs.length:=by omega
   have hg:(hR x.hs)[((i:Nat):Int).toNat]? =some (.l (rL x.hs[i])):=qix hlt'
   conv=>whnf
   refine qae (.l (rL x.hs[i])) hg (by omega) (qdl _) ?_
   conv=>whnf
   refine qae (.l (rL x.hs[i])) hg (by omega) (qdl _) ?_
   conv=>whnf
   refine qab (quS x.hs[i] (by have:=h.ll _ (List.getElem_mem hlt');omega)) ?_
   conv=>whnf
   refine qac (by kernel_rfl) ?_
   conv=>whnf
   refine qak (by omega) ?_
   conv=>whnf
   refine ⟨i+1,by omega,by omega, ?_⟩
   rw [Int.natCast_succ]
   refine qag ?_ ?_<;>repeat' (first|exact trivial|exact rfl|apply And.intro)
  ·conv=>whnf
   refine ⟨?_,trivial⟩
   conv=>whnf
noncomputable def mvN(v:P2)(l:List Ob)(i:Nat):List Ob:=(l.take i).map (mvO v)++l.drop i
theorem qqs(v:P2)(l:List Ob)(i:Nat):(mvN v l i).length=l.length:=by
 unfold mvN;simp;omega
theorem qtn(v:P2)(l:List Ob):mvN v l 0=l:=by simp [mvN]
theorem qvd(v:P2)(l:List Ob):mvN v l l.length=l.map (mvO v):=by simp [mvN]
theorem qxr{v:P2}{l:List Ob}{i:Nat}(h:i<l.length)(h2:i<(mvN v l i).length):(mvN v l i)[i] =l[i] :=by
 have e:(mvN v l i)[i]? =some l[i] :=by
  unfold mvN
  rw [List.getElem?_append_right (by simp;omega)]
  simp [Nat.min_eq_left (Nat.le_of_lt h)]
 rw [List.getElem?_eq_getElem h2] at e
 exact Option.some.inj e
theorem qw7{v:P2}{l:List Ob}{i:Nat}(h:i<l.length):(mvN v l i).set i (mvO v l[i])=mvN v l (i+1):=by
 unfold mvN
 have hd:l.drop i=l[i] ::l.drop (i+1):=List.drop_eq_getElem_cons h
 have hml:((l.take i).map (mvO v)).length=i:=by simp;omega
 rw [List.set_append_right _ _ (by rw [hml];omega),List.take_succ_eq_append_getElem h,List.map_append,hd,hml,Nat.sub_self,List.set_cons_zero,List.map_singleton,List.append_assoc]
 rfl
theorem qwV{v:P2}{l:List Ob}{i:Nat}{y:Ob}(h:y∈mvN v l i):(∃x∈l,y=mvO v x)\/y∈l:=by
 unfold mvN at h
 rcases List.mem_append.1 h with h|h
 ·obtain ⟨x,hx,rfl⟩:=List.mem_map.1 h
  exact .inl ⟨x,List.mem_of_mem_take hx,rfl⟩
 ·exact .inr (List.mem_of_mem_drop h)
theorem qra{β:Type}{f:Ob->β}{v:P2}{l:List Ob}(hf: ∀x∈l,f (mvO v x)=f x)(i:Nat):(mvN v l i).map f=l.map f:=by
 unfold mvN
 rw [List.map_append,List.map_map]
 conv=>rhs;rw [<-List.take_append_drop i l,List.map_append]
 congr 1
 exact List.map_congr_left fun x hx=>hf x (List.mem_of_mem_take hx)
theorem qpN: ∀(l pre:List Ob),scE pre l=0-> ∀i (h:i<l.length),(pre++l.take i).any (isN l[i].nm)=false
 | [],_,_,i,h=>by simp at h
 |y::t,pre,h,i,hi=>by
  rw [scE] at h
  split at h
  ·rename_i k;exact absurd h k
  ·split at h
   ·exact absurd h (by decide)
   ·rename_i k1 k2
    match i with
    |0=>simpa using k2
    |i+1=>
     have:=qpN t (pre++ [y]) h i (by simpa using hi)
     simpa using this
theorem qsm{l:List Ob}(h:scE [] l=0){i:Nat}(hi:i<l.length):qef (isN l[i].nm) l=i:=by
 have hu:=qpN l [] h i hi
 rw [List.nil_append,List.any_eq_false] at hu
 refine qeQ hi (fun j hj=> ?_) (decide_eq_true rfl)
 have:=hu l[j] (List.mem_take_iff_getElem.2 ⟨j,by omega,rfl⟩)
 simpa using this
theorem qrZ{w:Ws}{v:P2}(hz:SzW 12 w)(hw:wsE w=0)(bv:BP 30 v){i:Nat}(hi:i<w.l.length):
  Fun Tryz.prog 31 [wsD {w with l:=mvN v w.l i},.v (.string w.l[i].nm),pD v] [wsD {w with l:=mvN v w.l (i+1)},i64 0] :=by
 obtain ⟨v1,v2,v3⟩:=qmn hw
 have z30:=hz.mono (show 12<=30 by omega) (by omega)
 have hx: ∀x∈w.l,obE x=0:=qi7 _ _ v3
 have mo: ∀x∈w.l,pgE (mvO v x).o (mvO v x).hs=0/\SzO 61 (mvO v x):=fun x hx'=>(qlr (z30.l x hx') (by omega) (qgK (hx x hx')).2 bv).2
 have nmm:(mvN v w.l i).map nmO=w.l.map nmO:=qra (fun x hx'=>by unfold nmO;rw [qo9,hx x hx',qx6 (hx x hx') (mo x hx').1]) i
 have hlen:=qqs v w.l i
 have hwi:wsE {w with l:=mvN v w.l i}=0:=by
  have e:scE [] (mvN v w.l i)=scE [] w.l:=qkT _ _ _ _ nmm rfl
  unfold wsE
  simp only
  rw [if_neg (by rw [v1];decide),if_neg (by omega),e,v3]
 have z61:=hz.mono (show 12<=61 by omega) (by omega)
 have hzi:SzW 61 {w with l:=mvN v w.l i}:=⟨z61.a,z61.b,z61.c,z61.d,fun y hy=>by
  rcases qwV hy with ⟨x,hx',rfl⟩|hy
  ·exact (mo x hx').2
  ·exact z61.l y hy⟩
 have hj:i<(mvN v w.l i).length:=by omega
 have hg:=qxr hi hj
 have hf:qef (isN w.l[i].nm) (mvN v w.l i)=i:=by
  rw [qow (l':=w.l) (qra (fun x _=>by unfold isN;rw [qo9]) i)]
  exact qsm v3 hi
 have hs:=qsb hzi (by omega) hwi (bv.mono (by omega)) hj hf (by show (mvN v w.l i).length<=32;omega) (by
  show pgE (mvN v w.l i)[i].o (mvN v w.l i)[i].hs=0
  rw [hg];exact (qgK (hx _ (List.getElem_mem hi))).2)
 have e:(mvN v w.l i).set i (mvO v (mvN v w.l i)[i])=mvN v w.l (i+1):=by rw [hg,qw7 hi]
 have e2:({{w with l:=mvN v w.l i} with l:=(mvN v w.l i).set i (mvO v (mvN v w.l i)[i])}:Ws)={w with l:=mvN v w.l (i+1)}:=by rw [e]
 rw [<-e2]
 exact hs
theorem qFs(hA:Fun Tryz.prog 12 [] [.v (.bool true)])(w:Ws)(hw:qE4 w)(p q:RD)(hp:Sz p)(hq:Sz q):
  Fun Tryz.prog 5 [wsD w,ptR p q] [.v (.bool true)] :=by
 have hll:(oL w.l).length=w.l.length:=by simp
 have hsm:=quY w hw.n hw.l
 refine qad (fun t=>t==5||t==7||t==8||t==11||t==12) mixed tOk Tryz.func5 rfl rfl ?_
 conv=>whnf
 refine qaa rfl rfl hsm ?_
 conv=>whnf
 refine qbu (fun c1=> ?_) (fun c1=> ?_)
 ·conv=>whnf
  refine qaa rfl rfl hA ?_
  conv=>whnf
  exact ⟨rfl,trivial⟩
 ·rw [Bool.and_eq_true] at c1
  have hwe:=of_decide_eq_true c1.2
  have hsm2:=c1.1
  unfold smW at hsm2
  rw [Bool.and_eq_true] at hsm2
  have hl4:=of_decide_eq_true hsm2.2
  have hz:SzW 12 w:=quM (by simpa using hsm2.1) hl4
  conv=>whnf
  refine qaa rfl rfl (qfq p q hp hq) ?_
  conv=>whnf
  refine qav (fun c3=> ?_) (fun c3=> ?_)
  ·conv=>whnf
   refine qaa rfl rfl hA ?_
   conv=>whnf
   exact ⟨rfl,trivial⟩
  have z1:=hp.1
  have z2:=hp.2
  have z3:=hq.1
  have z4:=hq.2
  conv=>whnf
  refine qak (by omega) ?_
  conv=>whnf
  refine qak (by omega) ?_
  conv=>whnf
  refine qak (by omega) ?_
  conv=>whnf
  refine qaf (fun c5=> ?_) (fun c5=> ?_)
  ·conv=>whnf
   refine qaa rfl rfl hA ?_
   conv=>whnf
   exact ⟨rfl,trivial⟩
  have hv1:=qdO.1 c3
  have ev1:ptR p q=pD (p.val,q.val):=by unfold pD ptD ptR qel qeC qeB;simp only;rw [hv1.1,hv1.2]
  have b1:BP 30 (p.val,q.val):=⟨qEU (by omega) (by omega),qEU (by omega) (by omega)⟩
  have step:=fun i (hi:i<w.l.length)=>qrZ hz hwe b1 hi
  rw [<-ev1] at step
  conv=>whnf
  refine qah (fun t=>t==5||t==7||t==8||t==11||t==12) (fun i:Nat=>⟨fr 122 [(2,.d (.p 0 (wsD w).cells)),(3,.d (.p 0 (ptR p q).cells)),(5,.ptr 0 0 0),(47,.d (.l (oL w.l))),(48,.d (i64 (oL w.l).length)),(49,.d (i64 i))], [.box 30 ((wsD {w with l:=mvN (p.val,q.val) w.l i}).cells.map .d)]⟩) (fun i=>i<=w.l.length) (fun i=>w.l.length-i) 0 mixed tOk (by omega) ?_ ?_
  ·rw [qtn]
   refine qag ?_ ?_<;>repeat' (first|exact trivial|exact rfl|apply And.intro)
  ·intro i hi
   conv=>whnf
   refine qaf (fun hlt=> ?_) (fun hge=> ?_)
   ·have hlt':i<w.l.length:=by omega
    conv=>whnf
    refine qae (obD w.l[i]) (qdT hlt') (by omega) (qcc w.l) ?_
    conv=>whnf
    refine qaa rfl rfl (step i hlt') ?_
    conv=>whnf
    refine qa1 (by decide) ?_
    conv=>whnf
    refine qak (by omega) ?_
    conv=>whnf
    refine ⟨i+1,by omega,by omega, ?_⟩
    rw [Int.natCast_succ]
    refine qaj 2 rfl ?_
    refine qaj 1 rfl ?_
    refine qag ?_ ?_<;>repeat' (first|exact trivial|exact rfl|apply And.intro)
   ·have hiE:i=w.l.length:=by omega
    subst hiE
    conv=>whnf
    have hlm:=qqs (p.val,q.val) w.l w.l.length
    have hz30:=hz.mono (show 12<=30 by omega) (by omega)
    have hsc:=qi7 _ _ (qmn hwe).2.2
    refine qah (fun t=>t==5||t==7||t==8||t==11||t==12) (fun i:Nat=>⟨fr 122 [(2,.d (.p 0 (wsD w).cells)),(3,.d (.p 0 (ptR p q).cells)),(5,.ptr 0 0 0),(66,.d (.l (oL w.l))),(67,.d (i64 (oL w.l).length)),(68,.d (i64 i))], [.box 30 ((wsD {w with l:=mvN (p.val,q.val) w.l w.l.length}).cells.map .d)]⟩) (fun i=>i<=w.l.length) (fun i=>w.l.length-i) 0 mixed tOk (by omega) ?_ ?_
    ·refine qag ?_ ?_<;>repeat' (first|exact trivial|exact rfl|apply And.intro)
    ·intro i hi
     conv=>whnf
     refine qaf (fun hlt=> ?_) (fun hge=> ?_)
     ·have hlt':i<w.l.length:=by omega
      obtain ⟨m1,m2,m3⟩:=qlr (hz30.l _ (List.getElem_mem hlt')) (by omega) (qgK (hsc _ (List.getElem_mem hlt'))).2 b1
      rw [<-ev1] at m1
      conv=>whnf
      refine qae (obD w.l[i]) (qdT hlt') (by omega) (qcc w.l) ?_
      conv=>whnf
      refine qaa rfl rfl m1 ?_
      conv=>whnf
      have hget:(oL (mvN (p.val,q.val) w.l w.l.length))[((i:Nat):Int).toNat]? =some (obD (mvO (p.val,q.val) w.l[i])):=by
       rw [qvd]
       have:=qdT (l:=w.l.map (mvO (p.val,q.val))) (i:=i) (by rw [List.length_map];omega)
       rw [List.getElem_map] at this
       exact this
      refine qa1 (by decide) ?_
      conv=>whnf
      refine qav (fun h=>absurd (by rw [quG,quG,hlm]) h) (fun _=> ?_)
      conv=>whnf
      refine qae (obD (mvO (p.val,q.val) w.l[i])) hget (by omega) (qcc _) ?_
      conv=>whnf
      have en:(w.l[i].nm==w.l[i].nm)=true:=qf3 _
      refine qa1 (by show (!(w.l[i].nm==w.l[i].nm))=false;rw [en];rfl) ?_
      conv=>whnf
      refine qae (obD (mvO (p.val,q.val) w.l[i])) hget (by omega) (qcc _) ?_
      conv=>whnf
      refine qab (qwC m3) ?_
      conv=>whnf
      refine qac (by kernel_rfl) ?_
      conv=>whnf
      refine qak (by omega) ?_
      conv=>whnf
      refine ⟨i+1,by omega,by omega, ?_⟩
      rw [Int.natCast_succ]
      refine qaj 2 rfl ?_
      refine qaj 1 rfl ?_
      refine qag ?_ ?_<;>repeat' (first|exact trivial|exact rfl|apply And.intro)
     ·have hiE:i=w.l.length:=by omega
      conv=>whnf
      refine qjr (qaL (qnY _) (qaL (qf3 _) (qaL (qf3 _) (qaL (qnY _) (qaL (qf3 _) (qaL (qf3 _) (qaL (qnY _) (qaL (qf3 _) (qaL (qf3 _) (qaL (qnY _) (qaL (qf3 _) (qaL (qf3 _) rfl)))))))))))) ?_
      conv=>whnf
      refine qaa rfl rfl hA ?_
      conv=>whnf
      refine ⟨?_,trivial⟩
      conv=>whnf
end Go.Nv
end
