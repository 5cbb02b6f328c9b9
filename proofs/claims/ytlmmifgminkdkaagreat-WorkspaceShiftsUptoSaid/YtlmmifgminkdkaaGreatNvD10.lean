import Derived.Test.YtlmmifgminkdkaaGreatNvD9
import Derived.Test.YtlmmifgminkdkaaGreatNvD1
set_option linter.all false
set_option maxRecDepth 100000
section
namespace Go.Nv
open Go.Proofs Nw
noncomputable def mvW(w:Ws)(j:Nat)(x:Ob):Ws:={w with l:=w.l.set j x}
theorem qm3(v:P2)(x:Ob):(mvO v x).nm=x.nm:=rfl
theorem qui{x:Ob}{v:P2}(h:obE x=0)(k:pgE (mvO v x).o (mvO v x).hs=0):obE (mvO v x)=0:=by
 obtain ⟨h1,h2⟩:=qfv h
 rw [qsc (by rw [qm3];exact h1),k]
theorem qyt{w:Ws}{j:Nat}{y:Ob}(hw:wsE w=0)(hj:j<w.l.length)(hn:y.nm=w.l[j].nm)(hy:obE y=0):wsE (mvW w j y)=0:=by
 obtain ⟨h1,h2,h3⟩:=qfE hw
 have hx:=qfP _ _ h3 _ (List.getElem_mem hj)
 have e:scE [] (w.l.set j y)=scE [] w.l:=qhR _ _ _ _ (qgy hj (by unfold nmO;rw [hn,hy,hx])) rfl
 unfold wsE mvW
 simp only
 rw [if_neg (by rw [h1];decide),if_neg (by rw [List.length_set];omega),e,h3]
theorem qum{n m:Nat}{w:Ws}{j:Nat}{y:Ob}(h:SzW n w)(hm:n<=m)(hb:m<1000000)(hy:SzO m y):SzW m (mvW w j y):=by
 have h':=h.mono hm hb
 refine ⟨h'.a,h'.b,h'.c,h'.d,fun x hx=> ?_⟩
 rcases List.mem_or_eq_of_mem_set hx with hx|rfl
 ·exact h'.l x hx
 ·exact hy
theorem qwa{w:Ws}{j:Nat}{y:Ob}{s:ByteArray}(hj:j<w.l.length)(hn:y.nm=w.l[j].nm):qdA (isN s) (mvW w j y).l=qdA (isN s) w.l:=
 qiz (qgy hj (by unfold isN;rw [hn]))
theorem qyj{r:RD}{n:Nat}(h1:r.num.size<=n)(h2:r.den.size<=n):Bd n r.val:=by
 have hb: ∀s:ByteArray,s.size<=n->bv s<=256^n:=fun s h=>Nat.le_trans (Nat.le_of_lt (qaV _)) (Nat.pow_le_pow_right (by omega) h)
 refine qgT (qhG _) ?_ ?_
 ·show (sg r.neg (bv r.num)).natAbs<=_
  rw [qdV];exact hb _ h1
 ·have:=hb _ h2
  have:0<256^n:=Nat.pow_pos (by omega)
  unfold dv
  split<;>omega
theorem qsA{α:Type}{g:α->Bool}{l:List α}{i:Nat}(h:i<l.length)(hg:g l[i] =true): ∃j,∃hj:j<l.length,qdA g l=j/\g l[j] =true:=by
 unfold qdA
 cases hf:l.findIdx? g with
 |none=>
  rw [List.findIdx?_eq_none_iff] at hf
  have:=hf _ (List.getElem_mem h)
  rw [hg] at this
  exact absurd this (by decide)
 |some j=>
  rw [List.findIdx?_eq_some_iff_getElem] at hf
  obtain ⟨hj,h1,h2⟩:=hf
  exact ⟨j,hj,rfl,h1⟩
theorem qvo{w:Ws}{j:Nat}{s:ByteArray}{a b:P2}(hz:SzW 12 w)(hw:wsE w=0)(hj:j<w.l.length)(hf:qdA (isN s) w.l=j)(ba:BP 60 a)(bb:BP 60 b):
  ∃w1 w2:Ws,SzW 121 w1/\wsE w1=0/\SzW 243 w2/\w2.l.length=w.l.length/\
   Fun Tryz.prog 31 [wsD w,.v (.string s),pD a] [wsD w1,i64 0] /\
   Fun Tryz.prog 31 [wsD w1,.v (.string s),pD b] [wsD w2,i64 0] /\
   Fun Tryz.prog 31 [wsD w,.v (.string s),ptD (a.1+b.1) (a.2+b.2)] [wsD w2,i64 0] /\
   Fun Tryz.prog 31 [wsD w1,.v (.string s),ptD (0-a.1) (0-a.2)] [wsD w,i64 0] :=by
 obtain ⟨v1,v2,v3⟩:=qfE hw
 have hx:=qfP _ _ v3 _ (List.getElem_mem hj)
 have hp:=(qfv hx).2
 have z60:=hz.mono (show 12<=60 by omega) (by omega)
 have z121:=hz.mono (show 12<=121 by omega) (by omega)
 have m1:=qhH (z60.l _ (List.getElem_mem hj)) (by omega) hp ba
 have hy:=qui hx m1.2.1
 have hw1:wsE (mvW w j (mvO a w.l[j]))=0:=qyt hw hj rfl hy
 have hz1:SzW 121 (mvW w j (mvO a w.l[j])):=qum hz (by omega) (by omega) m1.2.2
 have hj1:j<(mvW w j (mvO a w.l[j])).l.length:=by show j<(w.l.set j _).length;rw [List.length_set];exact hj
 have hg1:(mvW w j (mvO a w.l[j])).l[j] =mvO a w.l[j] :=List.getElem_set_self ..
 have hf1:qdA (isN s) (mvW w j (mvO a w.l[j])).l=j:=(qwa hj (qm3 a w.l[j])).trans hf
 have hl1:(mvW w j (mvO a w.l[j])).l.length=w.l.length:=List.length_set ..
 have bab:BP 121 (trP b a):=(quj ba bb).mono (by omega)
 have s1:=qfK z60 (by omega) hw ba hj hf v2 hp
 have s2:=qfK hz1 (by omega) hw1 (bb.mono (by omega)) hj1 hf1 (by omega) (by rw [hg1];exact m1.2.1)
 have s3:=qfK z121 (by omega) hw bab hj hf v2 hp
 have bna:BP 121 ((0-a.1,0-a.2):P2):=⟨by rw [show (0:Rat)-a.1= -a.1 by grind];exact ba.1.neg.mono (by omega),by rw [show (0:Rat)-a.2= -a.2 by grind];exact ba.2.neg.mono (by omega)⟩
 have s4:=qfK hz1 (by omega) hw1 bna hj1 hf1 (by omega) (by rw [hg1];exact m1.2.1)
 have m2:=qhH (z121.l _ (List.getElem_mem hj)) (by omega) hp bab
 rw [hg1] at s2 s4
 have e2:(mvW w j (mvO a w.l[j])).l.set j (mvO b (mvO a w.l[j]))=w.l.set j (mvO (trP b a) w.l[j]):=by
  show (w.l.set j _).set j _=_
  rw [List.set_set,qp7]
 have e4:(mvW w j (mvO a w.l[j])).l.set j (mvO (0-a.1,0-a.2) (mvO a w.l[j]))=w.l:=by
  show (w.l.set j _).set j _=_
  rw [List.set_set,qp7,show trP (0-a.1,0-a.2) a=((0,0):P2) by unfold trP;ext<;>simp<;>grind,qsR hp,List.set_getElem_self]
 rw [e2] at s2
 rw [e4] at s4
 exact ⟨mvW w j (mvO a w.l[j]),mvW w j (mvO (trP b a) w.l[j]),hz1,hw1,qum hz (by omega) (by omega) m2.2.2,List.length_set ..,s1,s2,s3,s4⟩
structure qBY (w:Ws):Prop where
 n:w.l.length<=2199023255552
 l: ∀x∈w.l,qzz (pgO x)
theorem qGn(hA:Fun Tryz.prog 12 [] [.v (.bool true)])(w:Ws)(hw:qBY w)(k:Nat)(hk:k<256)(p q r s:RD)(hp:Sz p)(hq:Sz q)(hr:Sz r)(hs:Sz s):
  Fun Tryz.prog 6 [wsD w,.v (.int .u8 (k:Int)),ptR p q,ptR r s] [.v (.bool true)] :=by
 have hll:(oL w.l).length=w.l.length:=by simp
 have hsm:=qpS w hw.n hw.l
 refine qac (fun t=>t==10||t==12||t==14||t==16) mixed tOk Tryz.func6 rfl rfl ?_
 conv=>whnf
 refine qaa rfl rfl hsm ?_
 conv=>whnf
 refine qbn (fun c1=> ?_) (fun c1=> ?_)
 ·conv=>whnf
  refine qaa rfl rfl hA ?_
  conv=>whnf
  exact ⟨rfl,trivial⟩
 ·rw [Bool.and_eq_true] at c1
  have hwe:=of_decide_eq_true c1.2
  have hsm2:=c1.1
  unfold smW at hsm2
  rw [Bool.and_eq_true] at hsm2
  have hl4:=of_decide_eq_true hsm2.2
  have hz:SzW 12 w:=qpb (by simpa using hsm2.1) hl4
  conv=>whnf
  refine qa4 (fun c2=> ?_) (fun c2=> ?_)
  ·conv=>whnf
   refine qaa rfl rfl hA ?_
   conv=>whnf
   exact ⟨rfl,trivial⟩
  conv=>whnf
  refine qaa rfl rfl (qdU p q hp hq) ?_
  conv=>whnf
  refine qav (fun c3=> ?_) (fun c3=> ?_)
  ·conv=>whnf
   refine qaa rfl rfl hA ?_
   conv=>whnf
   exact ⟨rfl,trivial⟩
  conv=>whnf
  refine qaa rfl rfl (qdU r s hr hs) ?_
  conv=>whnf
  refine qav (fun c4=> ?_) (fun c4=> ?_)
  ·conv=>whnf
   refine qaa rfl rfl hA ?_
   conv=>whnf
   exact ⟨rfl,trivial⟩
  have z1:=hp.1
  have z2:=hp.2
  have z3:=hq.1
  have z4:=hq.2
  have z5:=hr.1
  have z6:=hr.2
  have z7:=hs.1
  have z8:=hs.2
  conv=>whnf
  refine qak (by omega) ?_
  conv=>whnf
  refine qak (by omega) ?_
  conv=>whnf
  refine qak (by omega) ?_
  conv=>whnf
  refine qak (by omega) ?_
  conv=>whnf
  refine qak (by omega) ?_
  conv=>whnf
  refine qak (by omega) ?_
  conv=>whnf
  refine qak (by omega) ?_
  conv=>whnf
  refine qaf (fun c5=> ?_) (fun c5=> ?_)
  ·conv=>whnf
   refine qaa rfl rfl hA ?_
   conv=>whnf
   exact ⟨rfl,trivial⟩
  conv=>whnf
  refine qak (by omega) ?_
  conv=>whnf
  have hpos:0<w.l.length:=by omega
  have ht:Int.tmod (k:Int) ((oL w.l).length:Int)=((k%w.l.length:Nat):Int):=by rw [hll];exact qck _ _
  refine qak (by omega) ?_
  conv=>whnf
  have hi0:k%w.l.length<w.l.length:=Nat.mod_lt _ hpos
  refine qae (obD w.l[k%w.l.length]) (by rw [ht];exact qc3 hi0) (by rw [ht];omega) (qbS w.l) ?_
  conv=>whnf
  refine qad (by kernel_rfl) ?_
  conv=>whnf
  obtain ⟨j,hj,hf,_⟩:=qsA (g:=isN w.l[k%w.l.length].nm) hi0 (decide_eq_true rfl)
  generalize w.l[k%w.l.length].nm=nm at*
  have hv1:=qcn.1 c3
  have hv2:=qcn.1 c4
  have ev1:ptR p q=pD (p.val,q.val):=by unfold pD ptD ptR qd4 qeo qeg;simp only;rw [hv1.1,hv1.2]
  have ev2:ptR r s=pD (r.val,s.val):=by unfold pD ptD ptR qd4 qeo qeg;simp only;rw [hv2.1,hv2.2]
  have b1:BP 60 (p.val,q.val):=⟨qyj (by omega) (by omega),qyj (by omega) (by omega)⟩
  have b2:BP 60 (r.val,s.val):=⟨qyj (by omega) (by omega),qyj (by omega) (by omega)⟩
  obtain ⟨w1,w2,hz1,hw1,hz2,hl2,s1,s2,s3,s4⟩:=qvo hz hwe hj hf b1 b2
  rw [<-ev1] at s1
  rw [<-ev2] at s2
  have ha:=qnn (.mk b1.1 (by omega)) (.mk b1.2 (by omega)) (.mk b2.1 (by omega)) (.mk b2.2 (by omega))
  have h0:Q 0:= .mk (qdZ 0 (n:=0) (by simp)) (by omega)
  have hb:=qi4 h0 h0 (.mk b1.1 (by omega)) (.mk b1.2 (by omega))
  have e0:ptD 0 0= .a [.v (.bool false),.v (.string emp),.v (.string emp),.v (.bool false),.v (.string emp),.v (.string emp)] :=by
   unfold ptD;rw [qcT,qcW,qcS]
  rw [show ptD p.val q.val=ptR p q from ev1.symm,show ptD r.val s.val=ptR r s from ev2.symm] at ha
  rw [show ptD p.val q.val=ptR p q from ev1.symm,e0] at hb
  refine qaa rfl rfl s1 ?_
  conv=>whnf
  refine qaa rfl rfl s2 ?_
  conv=>whnf
  refine qab ha ?_
  conv=>whnf
  refine qab s3 ?_
  conv=>whnf
  refine qad (by kernel_rfl) ?_
  conv=>whnf
  refine qab hb ?_
  conv=>whnf
  refine qab s4 ?_
  conv=>whnf
  refine qad (by kernel_rfl) ?_
  conv=>whnf
  refine qem (by decide) ?_
  conv=>whnf
  refine qaa rfl rfl (qm0 hz2 (by omega)) ?_
  conv=>whnf
  refine qaa rfl rfl (qm0 hz (by omega)) ?_
  conv=>whnf
  have hck:=qnb hz1 (by have:=(qfE hw1).2.1;omega)
  rw [hw1] at hck
  refine qaa rfl rfl hck ?_
  conv=>whnf
  refine qem (by decide) ?_
  conv=>whnf
  refine qaa rfl rfl hA ?_
  conv=>whnf
  refine ⟨?_,trivial⟩
  conv=>whnf
abbrev CeT:=Int×Int×Int
abbrev ceD(x:CeT):D:= .a [i64 x.1,i64 x.2.1,i64 x.2.2]
theorem qAZ(l:List CeT):Uni 3 (l.map ceD):=by
 intro x hx
 obtain ⟨p,_,rfl⟩:=List.mem_map.1 hx
 rfl
theorem qA5{l:List CeT}{i:Nat}(h:i<l.length):(l.map ceD)[(i:Int).toNat]? =some (ceD l[i]):=by simp [h]
abbrev sbD(b:List D)(a1 a2 a3 a4:List D):D:= .a (b++ [.l a1,.l a2,.l a3,.l a4])
def smS(sel:CeT->Bool)(ar:CeT->Rat)(l:List CeT):Rat:=l.foldl (fun a c=>if sel c=true then a+ar c else a) 0
theorem qjN(sel:CeT->Bool)(ar:CeT->Rat)(l:List CeT)(c:CeT):smS sel ar (l++ [c])=if sel c=true then smS sel ar l+ar c else smS sel ar l:=by
 unfold smS;rw [List.foldl_append];rfl
theorem qEC(ms:List Int)(n:Int):Fun Tryz.prog 134 [.l (ms.map i64),.p 0 [i64 n]] [.v (.bool (decide (n<=ms.length)))] :=by
 have e:(ms.map i64).length=ms.length:=by simp
 refine qac (fun t=>false) mixed tOk Tryz.func134 rfl rfl ?_
 conv=>whnf
 refine ⟨?_,trivial⟩
 conv=>whnf
 rw [qaJ,e]
theorem qqf(x0 y0 x1 y1:Rat)(a1 a2 a3 a4 l:List D):Fun Tryz.prog 185 [sbD (quD x0 y0 x1 y1).cells a1 a2 a3 a4,.l l] [.f 258 [.p 0 (sbD (quD x0 y0 x1 y1).cells a1 a2 a3 a4).cells,.p 0 [.l l]]] :=by
 refine qac (fun t=>false) mixed tOk Tryz.func185 rfl rfl ?_
 conv=>whnf
 refine ⟨?_,trivial⟩
 conv=>whnf
 rfl
noncomputable def qz2(x0 y0 x1 y1:Rat)(a1 a2 a3 a4 l:List D)(cs:List CeT)(n:Int)(q:Rat)(i:Nat):St:=
 ⟨fr 29 [(0,.own 2 0),(1,.d (.p 0 (sbD (quD x0 y0 x1 y1).cells a1 a2 a3 a4).cells)),(2,.d (.p 0 [.l l])),(9,.d (.l (cs.map ceD))),(10,.d (i64 (cs.map ceD).length)),(11,.d (i64 i))],
  [.box 23 [.d (.v (.bool false)),.d (.v (.string ⟨#[]⟩)),.d (.v (.string ⟨#[]⟩))],.box 23 [.d (.v (.bool (qd4 q))),.d (.v (.string (qeo q))),.d (.v (.string (qeg q)))],
  .loop .ready none #[15,16] (rfO Tryz.f133.body).1 (rfO Tryz.f133.body).2 (fr 35 [(3,.d (.p 0 (sbD (quD x0 y0 x1 y1).cells a1 a2 a3 a4).cells)),(5,.d (.p 0 [.f 134 [.p 0 [i64 n]]])),(6,.ptr 0 0 0),(7,.ptr 1 0 0)])]⟩
theorem qE0{x0 y0 x1 y1:Rat}{a1 a2 a3 a4 l:List D}{cs:List CeT}{n:Int}{cen:CeT->P2}{mem:CeT->List Int}{ar:CeT->Rat}(hl:cs.length<1000000)
  (hC:Fun Tryz.prog 259 [sbD (quD x0 y0 x1 y1).cells a1 a2 a3 a4] [.l (cs.map ceD)])
  (hcen: ∀c∈cs,Fun Tryz.prog 260 [sbD (quD x0 y0 x1 y1).cells a1 a2 a3 a4,ceD c] [pD (cen c),i64 0])
  (har: ∀c∈cs,Fun Tryz.prog 261 [.l l,pD (cen c)] [.l ((mem c).map i64)])
  (hA: ∀c∈cs,c.1=3->Fun Tryz.prog 186 [sbD (quD x0 y0 x1 y1).cells a1 a2 a3 a4,ceD c] [qas (ar c),i64 0])
  (qa: ∀c∈cs,Q (ar c)) (qs: ∀i,i<=cs.length->Q (smS (fun c=>decide (c.1=3)&&decide (n<=(mem c).length)) ar (cs.take i))):
  Fun Tryz.prog 133 [sbD (quD x0 y0 x1 y1).cells a1 a2 a3 a4,.l l,.f 134 [.p 0 [i64 n]]] [qas (smS (fun c=>decide (c.1=3)&&decide (n<=(mem c).length)) ar cs)] :=by
 have hll:(cs.map ceD).length=cs.length:=by simp
 generalize hsel:(fun c:CeT=>decide (c.1=3)&&decide (n<=((mem c).length:Int)))=sel at*
 refine qac (fun t=>t==6||t==7||t==8||t==10) mixed tOk Tryz.func133 rfl rfl ?_
 conv=>whnf
 refine qaa rfl rfl (qqf x0 y0 x1 y1 a1 a2 a3 a4 l) ?_
 conv=>whnf
 refine qbX (g:=258) (cap:= [.d (.p 0 (sbD (quD x0 y0 x1 y1).cells a1 a2 a3 a4).cells),.d (.p 0 [.l l])]) (fun t=>t==6||t==7||t==8||t==10) mixed tOk rfl rfl rfl rfl rfl ?_
 conv=>whnf
 refine qaa rfl rfl hC ?_
 conv=>whnf
 refine qbV (fun t=>t==5||t==6||t==7||t==8||t==10) (fun i:Nat=>qz2 x0 y0 x1 y1 a1 a2 a3 a4 l cs n (smS sel ar (cs.take i)) i) (fun i=>i<=cs.length) (fun i=>cs.length-i) 0 mixed tOk (by omega) ?_ ?_
 ·unfold qz2
  have e0:smS sel ar (cs.take 0)=0:=rfl
  simp only [e0,qcT,qcW,qcS]
  refine qbC ?_ ?_<;>repeat' (first|exact trivial|exact rfl|apply And.intro)
 ·intro i hi
  conv=>whnf
  refine qaf (fun hlt=> ?_) (fun hge=> ?_)
  ·have hlt':i<cs.length:=by omega
   have hm:=List.getElem_mem hlt'
   conv=>whnf
   refine qae (ceD cs[i]) (qA5 hlt') (by omega) (qAZ cs) ?_
   conv=>whnf
   refine qaa rfl rfl (hcen _ hm) ?_
   conv=>whnf
   refine qed 5 _ (fun t=>t==5||t==6||t==7||t==8||t==10) (.tmp 21) [.tmp 22,.tmp 25] mixed tOk rfl rfl ⟨_,rfl⟩ (by kernel_rfl) ?_
   conv=>whnf
   refine qab (har _ hm) ?_
   conv=>whnf
   refine qad (by kernel_rfl) ?_
   conv=>whnf
   refine qbG (fun t=>t==5||t==6||t==7||t==8||t==10) mixed tOk rfl rfl rfl ?_
   conv=>whnf
   have hsc:sel cs[i] =(decide (cs[i].1=3)&&decide (n<=((mem cs[i]).length:Int))):=by rw [<-hsel]
   have hts:cs.take (i+1)=cs.take i++ [cs[i]] :=List.take_succ_eq_append_getElem hlt'
   refine qa4 (fun hk=> ?_) (fun hk=> ?_)
   ·conv=>whnf
    refine qaa rfl rfl (qEC (mem cs[i]) n) ?_
    conv=>whnf
    refine qal (fun hn=> ?_) (fun hn=> ?_)
    ·have hs:smS sel ar (cs.take (i+1))=smS sel ar (cs.take i)+ar cs[i] :=by rw [hts,qjN,if_pos (by rw [hsc,decide_eq_true hk,hn];rfl)]
     conv=>whnf
     refine qaa rfl rfl (hA _ hm hk) ?_
     conv=>whnf
     refine qaa rfl rfl (qss (qs i (by omega)) (qa _ hm)) ?_
     conv=>whnf
     refine qad (by kernel_rfl) ?_
     conv=>whnf
     refine qak (by omega) ?_
     conv=>whnf
     refine ⟨i+1,by omega,by omega, ?_⟩
     unfold qz2
     rw [hs,Int.natCast_succ]
     refine qai 3 rfl (qai 4 rfl (qai 6 rfl (qai 7 rfl ?_)))
     refine qbC ?_ ?_<;>repeat' (first|exact trivial|exact rfl|apply And.intro)
    ·have hs:smS sel ar (cs.take (i+1))=smS sel ar (cs.take i):=by rw [hts,qjN,if_neg (by rw [hsc,hn];simp)]
     conv=>whnf
     refine qad (by kernel_rfl) ?_
     conv=>whnf
     refine qak (by omega) ?_
     conv=>whnf
     refine ⟨i+1,by omega,by omega, ?_⟩
     unfold qz2
     rw [hs,Int.natCast_succ]
     refine qai 3 rfl (qai 4 rfl (qai 6 rfl ?_))
     refine qbC ?_ ?_<;>repeat' (first|exact trivial|exact rfl|apply And.intro)
   ·have hs:smS sel ar (cs.take (i+1))=smS sel ar (cs.take i):=by rw [hts,qjN,if_neg (by rw [hsc,decide_eq_false hk];simp)]
    conv=>whnf
    refine qad (by kernel_rfl) ?_
    conv=>whnf
    refine qak (by omega) ?_
    conv=>whnf
    refine ⟨i+1,by omega,by omega, ?_⟩
    unfold qz2
    rw [hs,Int.natCast_succ]
    refine qai 3 rfl (qai 4 rfl (qai 6 rfl ?_))
    refine qbC ?_ ?_<;>repeat' (first|exact trivial|exact rfl|apply And.intro)
  ·have:i=cs.length:=by omega
   subst this
   rw [List.take_length]
   conv=>whnf
   refine ⟨?_,trivial⟩
   conv=>whnf
   exact ⟨rfl,rfl,rfl,trivial⟩
end Go.Nv
end
