import Derived.Test.YtlmmifgminkdkaaGreatNxD8
import Derived.Test.YtlmmifgminkdkaaGreatNxC5
set_option linter.all false
set_option maxRecDepth 100000
section
namespace Go.Nv
open Go.Proofs Nw
theorem qrs{o:List P2}: ∀(hs:List (List (RD×RD))) (pre:List (List P2)),hoL o pre hs=0-> ∀i,pre.length<=i+1->0<i+1->i+1<(pre++hs.map (List.map vP)).length->
  cmP (ix ((pre++hs.map (List.map vP)).getD i []) 0) (ix ((pre++hs.map (List.map vP)).getD (i+1) []) 0)<0
 | [],pre,_,i,h1,_,h2=>by simp at h2;omega
 |h::hs,pre,e,i,h1,h0,h2=>by
  rw [hoL] at e
  split at e
  ·rename_i h1;exact absurd e h1
  rename_i a1
  split at e
  ·rename_i h2;exact absurd e h2
  rename_i a2
  have a2:hoE o pre (h.map vP)=0:=Classical.not_not.1 a2
  have eL:pre++(h::hs).map (List.map vP)=(pre++ [h.map vP])++hs.map (List.map vP):=by simp
  rw [eL] at h2 ⊢
  by_cases hi:i+1=pre.length
  ·unfold hoE at a2
   split at a2
   ·exact absurd a2 (by decide)
   split at a2
   ·exact absurd a2 (by decide)
   split at a2
   ·exact absurd a2 (by decide)
   split at a2
   ·exact absurd a2 (by decide)
   rename_i c4
   have e1:((pre++ [h.map vP])++hs.map (List.map vP)).getD (i+1) [] =h.map vP:=by
    rw [hi,List.append_assoc,List.getD_eq_getElem?_getD,List.getElem?_append_right (by omega)];simp
   have e2:((pre++ [h.map vP])++hs.map (List.map vP)).getD i [] =pre.getD (pre.length-1) [] :=by
    rw [List.append_assoc,List.getD_eq_getElem?_getD,List.getD_eq_getElem?_getD,List.getElem?_append_left (by omega),show i=pre.length-1 by omega]
   rw [e1,e2]
   refine Classical.byContradiction fun hn=>c4 ⟨by omega,by omega⟩
  ·exact qrs hs (pre++ [h.map vP]) e i (by simp;omega) h0 h2
theorem Ord.tr{hs:List (List P2)}(h:Ord hs)(hr: ∀x∈hs,RgOk x)(v:P2):Ord (trH v hs):=by
 intro i hi
 have hl:(trH v hs).length=hs.length:=List.length_map ..
 rw [hl] at hi
 have h1:=h i hi
 have g: ∀j,j<hs.length->(trH v hs).getD j [] =trL v (hs.getD j []):=fun j hj=>by
  rw [List.getD_eq_getElem?_getD,List.getD_eq_getElem?_getD]
  unfold trH
  rw [List.getElem?_map,List.getElem?_eq_getElem hj];rfl
 have p: ∀j,j<hs.length->0<(hs.getD j []).length:=fun j hj=>by
  rw [List.getD_eq_getElem?_getD,List.getElem?_eq_getElem hj]
  have:=(hr _ (List.getElem_mem hj)).len
  simp only [Option.getD_some];omega
 rw [g i (by omega),g (i+1) hi,qfP (p i (by omega)),qfP (p (i+1) hi),qeI]
 exact h1
theorem qyw{v p:P2}{n m:Nat}(hp:BP n p)(hv:BP m v):BP (n+m+1) (trP v p):=⟨hp.1.add hv.1,hp.2.add hv.2⟩
theorem qns{v:P2}{l:List P2}{n m:Nat}(hl: ∀p∈l,BP n p)(hv:BP m v): ∀p∈trL v l,BP (n+m+1) p:=fun p hp=>by
 obtain ⟨q,hq,rfl⟩:=List.mem_map.1 hp
 exact qyw (hl q hq) hv
theorem qkk(l:List P2):rL (l.map cP)=pL l:=qsH l
theorem qq8(hs:List (List P2)):hR (hs.map (List.map cP))=hQ hs:=by
 unfold hR hQ
 rw [List.map_map]
 exact List.map_congr_left fun h _=>by simp only [Function.comp];rw [qkk]
noncomputable def mvO(v:P2)(x:Ob):Ob:=⟨x.nm,(trL v (x.o.map vP)).map cP,(trH v (x.hs.map (List.map vP))).map (List.map cP)⟩
theorem SzO.pg{n:Nat}{x:Ob}(h:SzO n x):qE6 x.o x.hs n:=⟨by have:=h.lo;omega,by have:=h.lh;omega,h.o,h.h,fun l hl=>by have:=h.ll l hl;omega⟩
theorem qlr{n:Nat}{x:Ob}{v:P2}(h:SzO n x)(hn:n<100000)(hp:pgE x.o x.hs=0)(bv:BP n v):
  Fun Tryz.prog 32 [pgR x.o x.hs,pD v] [pgR (mvO v x).o (mvO v x).hs,i64 0] /\pgE (mvO v x).o (mvO v x).hs=0/\SzO (n+n+1) (mvO v x):=by
 have hpo:=h.pg
 have hl1:=h.lo
 have hl2:=h.lh
 have hck:=qmJ hpo (show n<1000000 by omega)
 rw [hp] at hck
 obtain ⟨z1,z2,z3,z4⟩:=qjg hp
 obtain ⟨o1,o2,o3,o4⟩:=qbx z1
 obtain ⟨P,ro,rh⟩:=qxh hp
 have hord:Ord (x.hs.map (List.map vP)):=fun i hi=>qrs x.hs [] z4 i (by simp) (by omega) (by simpa using hi)
 have hpt:=qzR (v:=v) hp
 have epg:pgR x.o x.hs= .a [.l (pL (x.o.map vP)),.l (hQ (x.hs.map (List.map vP)))] :=by
  unfold pgR;rw [qfu o1,quk (fun l hl=>(qbx (z2 l hl)).1)]
 have ob: ∀p∈x.o.map vP,BP n p:=fun p hp=>by obtain ⟨q,hq,rfl⟩:=List.mem_map.1 hp;exact (hpo.ob q hq).1
 have hb: ∀y∈x.hs.map (List.map vP),(∀p∈y,BP n p)/\y.length<=64:=fun y hy=>by
  obtain ⟨q,hq,rfl⟩:=List.mem_map.1 hy
  refine ⟨fun p hp=>by obtain ⟨r,hr,rfl⟩:=List.mem_map.1 hp;exact (hpo.hb q hq r hr).1, ?_⟩
  have:=qbx (z2 q hq)
  rw [List.length_map];omega
 have ehs:(x.hs.map fun h=>(trL v (h.map vP)).map cP)=(trH v (x.hs.map (List.map vP))).map (List.map cP):=by
  unfold trH;rw [List.map_map,List.map_map];rfl
 rw [ehs] at hpt
 have ol:(x.o.map vP).length=x.o.length:=List.length_map ..
 have hhl:(x.hs.map (List.map vP)).length=x.hs.length:=List.length_map ..
 rw [epg] at hck
 have sz2:SzO (n+n+1) (mvO v x):=by
  have b1:=qns ob bv
  refine ⟨by omega,fun x hx=> ?_,fun h hh x hx=> ?_,by unfold mvO;rw [List.length_map,qdi];omega,by unfold mvO;rw [List.length_map];unfold trH;rw [List.length_map];omega,fun h hh=> ?_⟩
  ·obtain ⟨y,hy,rfl⟩:=List.mem_map.1 hx
   have:=b1 y hy
   exact ⟨by rw [qpt];exact this,this.szp (by omega)⟩
  ·obtain ⟨h',hh',rfl⟩:=List.mem_map.1 hh
   obtain ⟨h2,hh2,rfl⟩:=List.mem_map.1 hh'
   obtain ⟨y,hy,rfl⟩:=List.mem_map.1 hx
   have:=qns (hb h2 hh2).1 bv y hy
   exact ⟨by rw [qpt];exact this,this.szp (by omega)⟩
  ·obtain ⟨h',hh',rfl⟩:=List.mem_map.1 hh
   obtain ⟨h2,hh2,rfl⟩:=List.mem_map.1 hh'
   have:=(hb h2 hh2).2
   rw [List.length_map,qdi];omega
 have hck2:=qmJ sz2.pg (show n+n+1<1000000 by omega)
 have hpt':pgE (mvO v x).o (mvO v x).hs=0:=hpt
 rw [hpt'] at hck2
 have epg2:pgR (mvO v x).o (mvO v x).hs= .a [.l (pL (trL v (x.o.map vP))),.l (hQ (trH v (x.hs.map (List.map vP))))] :=by
  unfold pgR mvO;rw [qkk,qq8]
 rw [epg2] at hck2
 have hcan:=qkd (ro.tr v) (fun h hh=>by obtain ⟨h2,hh2,rfl⟩:=List.mem_map.1 hh;exact (rh h2 hh2).tr _) (qns ob bv)
  (fun h hh=>by obtain ⟨h2,hh2,rfl⟩:=List.mem_map.1 hh;exact qns (hb h2 hh2).1 bv) (hord.tr rh v) (by unfold trH;rw [List.length_map];omega) (by omega) hck2
 have hmv:=qAD bv (by omega) (qsj (n:=n) ro rh ob (fun h hh=>(hb h hh).1) bv (by omega) (by omega) hck hcan)
 rw [<-epg, <-epg2] at hmv
 exact ⟨hmv,hpt',sz2⟩
theorem qz8{l:List Ob}{i off:Nat}{o:List (RD×RD)}{hs:List (List (RD×RD))}{K:List D->Prop}(hi:i<l.length)(ho:off=i*3+1)
  (k:K (oL (l.set i ⟨l[i].nm,o,hs⟩))):quv 2 3 (oL l) off (pgR o hs) K:=by
 subst ho
 refine qka _ ?_ rfl (qcc _) (by omega) k
 unfold qdh
 have h1:(i*3+1)/3=i:=by omega
 have h2:(i*3+1)%3=1:=by omega
 have hg:(oL l)[i]? =some (obD l[i]):=by simp [oL,hi]
 simp only [h1,h2,hg]
 rw [show oL (l.set i ⟨l[i].nm,o,hs⟩)=(oL l).set i (obD ⟨l[i].nm,o,hs⟩) from List.map_set ..]
 rfl
theorem qsb{n:Nat}{w:Ws}{s:ByteArray}{v:P2}{j:Nat}(h:SzW n w)(hn:n<100000)(hw:wsE w=0)(bv:BP n v)(hj:j<w.l.length)(hf:qef (isN s) w.l=j)(hl:w.l.length<=32)(hp:pgE w.l[j].o w.l[j].hs=0):
  Fun Tryz.prog 31 [wsD w,.v (.string s),pD v] [wsD {w with l:=w.l.set j (mvO v w.l[j])},i64 0] :=by
 have hll:(oL w.l).length=w.l.length:=by simp
 have hc:=qsE h (by omega)
 rw [hw] at hc
 obtain ⟨hm,_,_⟩:=qlr (h.l _ (List.getElem_mem hj)) hn hp bv
 have hi:=qkm w.l s (by omega)
 rw [hf] at hi
 refine qad (fun t=>t==6||t==10) mixed tOk Tryz.func31 rfl rfl ?_
 conv=>whnf
 refine qaa rfl rfl hc ?_
 conv=>whnf
 refine qa1 (by decide) ?_
 conv=>whnf
 refine qaa rfl rfl (qjD (.mk bv.1 (by omega)) (.mk bv.2 (by omega))) ?_
 conv=>whnf
 refine qa1 (by decide) ?_
 conv=>whnf
 refine qaa rfl rfl hi ?_
 conv=>whnf
 refine qaU (by omega) ?_
 conv=>whnf
 refine qfS (bytes:=64) rfl rfl (qso w (by omega)) ?_
 conv=>whnf
 refine qa0 (by omega) (qcc _) ?_
 conv=>whnf
 refine qbb (i:=j) (r:=1) _ (pgR w.l[j].o w.l[j].hs) (by have:=qdT hj;exact this) (by omega) (by omega) (qcc _) rfl ?_
 conv=>whnf
 refine qab hm ?_
 conv=>whnf
 refine qac (by kernel_rfl) ?_
 conv=>whnf
 refine qa1 (by decide) ?_
 conv=>whnf
 refine qa0 (by omega) (qcc _) ?_
 conv=>whnf
 refine qz8 hj (by omega) ?_
 conv=>whnf
 refine qbn 1 ?_
 refine qaa rfl rfl (qyn w (w.l.set j (mvO v w.l[j]))) ?_
 conv=>whnf
 refine ⟨?_, ?_,trivial⟩
 ·conv=>whnf
  exact ⟨rfl,rfl,rfl,rfl,rfl,rfl,rfl,rfl,rfl,rfl,rfl,rfl,rfl,trivial⟩
 ·conv=>whnf
theorem qnY(b:Bool):eqV (.bool b) (.bool b)=true:=by cases b<;>rfl
theorem qf3(s:ByteArray):eqV (.string s) (.string s)=true:=by
 show (s==s)=true
 rw [qbN];exact decide_eq_true rfl
theorem qaL{u:Value}{xs ys:List D}(h:eqV u u=true)(k:qdH xs ys=true):qdH (.v u::xs) (.v u::ys)=true:=by
 show (eqV u u&&qdH xs ys)=true
 rw [h,k];rfl
theorem nqP(p:RD×RD):(!qdH (List.take qwL.cells (List.drop 0 (pR p).cells)) (List.take qwL.cells (List.drop 0 (pR p).cells)))=false:=by
 have e:qdH (List.take qwL.cells (List.drop 0 (pR p).cells)) (List.take qwL.cells (List.drop 0 (pR p).cells))=true:=
  qaL (qnY _) (qaL (qf3 _) (qaL (qf3 _) (qaL (qnY _) (qaL (qf3 _) (qaL (qf3 _) rfl)))))
 rw [e];rfl
theorem qvN(s:ByteArray):Fun Tryz.prog 86 [.v (.string s)] [.v (.bool (nmB s))] :=by
 have hsl:s.data.toList.length=s.size:=Array.length_toList
 refine qad (fun t=>false) mixed tOk Tryz.func86 rfl rfl ?_
 conv=>whnf
 refine qaf (fun h1=> ?_) (fun h1=> ?_)
 ·conv=>whnf
  refine ⟨?_,trivial⟩
  conv=>whnf
  rw [nmB,decide_eq_false (by omega)]
 ·conv=>whnf
  refine qaf (fun h2=> ?_) (fun h2=> ?_)
  ·conv=>whnf
   refine ⟨?_,trivial⟩
   conv=>whnf
   rw [nmB,decide_eq_false (by omega)]
  ·conv=>whnf
   refine qah (fun t=>false) (fun i:Nat=>⟨fr 41 [(0,.d (.v (.string s))),(3,.d (i64 i))], []⟩) (fun i=>i<=s.size/\ ∀j (hj:j<i) (hjl:j<s.data.toList.length),bdB s.data.toList[j] =false) (fun i=>s.size-i) 0 mixed tOk ⟨by omega,fun j hj=>by omega⟩ ?_ ?_
   ·refine qag ?_ ?_<;>repeat' (first|exact trivial|exact rfl|apply And.intro)
   ·rintro i ⟨hi,hno⟩
    conv=>whnf
    refine qaf (fun hlt=> ?_) (fun hge=> ?_)
    ·have hlt':i<s.data.toList.length:=by omega
     conv=>whnf
     refine qak (by omega) ?_
     conv=>whnf
     have eb:bt s i=(s.data.toList[i].toNat:Int):=by
      unfold bt
      rw [dif_pos (show (i:Int).toNat<s.size by omega)]
      rfl
     generalize bt s i=c at*
     have ed:bdB s.data.toList[i] =bdC c:=by rw [eb];rfl
     have bad:bdC c=true->nmB s=false:=fun h=>by
      rw [nmB]
      refine decide_eq_false fun k=> ?_
      have:=k.2.2 _ (List.getElem_mem hlt')
      rw [ed,h] at this
      exact absurd this (by decide)
     have good:bdC c=false-> ∀j (hj:j<i+1) (hjl:j<s.data.toList.length),bdB s.data.toList[j] =false:=fun h j hj hjl=>by
      by_cases hji:j=i
      ·subst hji;rw [ed];exact h
      ·exact hno j (by omega) hjl
     refine qaf (fun h1=> ?_) (fun h1=> ?_)
     ·conv=>whnf
      refine qaf (fun h2=> ?_) (fun h2=> ?_)
      ·conv=>whnf
       refine qak (by omega) ?_
       conv=>whnf
       refine ⟨i+1,⟨by omega,good (by rw [bdC];exact decide_eq_false (by omega))⟩,by omega, ?_⟩
       rw [Int.natCast_succ]
       refine qag ?_ ?_<;>repeat' (first|exact trivial|exact rfl|apply And.intro)
      ·conv=>whnf
       refine qaf (fun h3=> ?_) (fun h3=> ?_)
       ·conv=>whnf
        refine qaf (fun h4=> ?_) (fun h4=> ?_)
        ·exact absurd h4 (by omega)
        ·conv=>whnf
         refine qbu (fun h5=> ?_) (fun h5=> ?_)
         ·rw [qaH] at h5
          have h6:c≠95:=by simpa using h5
          rw [bad (by rw [bdC];exact decide_eq_true (by omega))]
          conv=>whnf
          exact ⟨rfl,trivial⟩
         ·rw [qaH] at h5
          have h6:c=95:=by simpa using h5
          conv=>whnf
          refine qak (by omega) ?_
          conv=>whnf
          refine ⟨i+1,⟨by omega,good (by rw [bdC];exact decide_eq_false (by omega))⟩,by omega, ?_⟩
          rw [Int.natCast_succ]
          refine qag ?_ ?_<;>repeat' (first|exact trivial|exact rfl|apply And.intro)
       ·exact absurd h3 (by omega)
     ·conv=>whnf
      refine qaf (fun h3=> ?_) (fun h3=> ?_)
      ·conv=>whnf
       refine qaf (fun h4=> ?_) (fun h4=> ?_)
       ·conv=>whnf
        refine qak (by omega) ?_
        conv=>whnf
        refine ⟨i+1,⟨by omega,good (by rw [bdC];exact decide_eq_false (by omega))⟩,by omega, ?_⟩
        rw [Int.natCast_succ]
        refine qag ?_ ?_<;>repeat' (first|exact trivial|exact rfl|apply And.intro)
       ·conv=>whnf
        refine qbu (fun h5=> ?_) (fun h5=> ?_)
        ·rw [qaH] at h5
         have h6:c≠95:=by simpa using h5
         rw [bad (by rw [bdC];exact decide_eq_true (by omega))]
         conv=>whnf
         exact ⟨rfl,trivial⟩
        ·rw [qaH] at h5
         have h6:c=95:=by simpa using h5
         conv=>whnf
         refine qak (by omega) ?_
         conv=>whnf
         refine ⟨i+1,⟨by omega,good (by rw [bdC];exact decide_eq_false (by omega))⟩,by omega, ?_⟩
         rw [Int.natCast_succ]
         refine qag ?_ ?_<;>repeat' (first|exact trivial|exact rfl|apply And.intro)
      ·conv=>whnf
       refine qbu (fun h5=> ?_) (fun h5=> ?_)
       ·rw [qaH] at h5
        have h6:c≠95:=by simpa using h5
        rw [bad (by rw [bdC];exact decide_eq_true (by omega))]
        conv=>whnf
        exact ⟨rfl,trivial⟩
       ·rw [qaH] at h5
        have h6:c=95:=by simpa using h5
        conv=>whnf
        refine qak (by omega) ?_
        conv=>whnf
        refine ⟨i+1,⟨by omega,good (by rw [bdC];exact decide_eq_false (by omega))⟩,by omega, ?_⟩
        rw [Int.natCast_succ]
        refine qag ?_ ?_<;>repeat' (first|exact trivial|exact rfl|apply And.intro)
    ·have e:nmB s=true:=by
      rw [nmB]
      refine decide_eq_true ⟨by omega,by omega,fun b hb=> ?_⟩
      obtain ⟨j,hj,rfl⟩:=List.mem_iff_getElem.1 hb
      exact hno j (by omega) hj
     rw [e]
     conv=>whnf
     exact ⟨rfl,trivial⟩
theorem qwP(w:Ws)(s:ByteArray)(hl:w.l.length<1000000000000000):Fun Tryz.prog 46 [wsD w,.v (.string s)] [i64 (max (qef (isN s) w.l) 0),.v (.bool (decide (0<=qef (isN s) w.l)))] :=by
 have hll:(oL w.l).length=w.l.length:=by simp
 refine qad (fun t=>false) mixed tOk Tryz.func46 rfl rfl ?_
 conv=>whnf
 refine qah (fun t=>false) (fun i:Nat=>⟨fr 23 [(1,.d (.v (.string s))),(2,.d (.p 0 (wsD w).cells)),(6,.d (i64 i))], []⟩) (fun i=>i<=w.l.length/\ ∀j (hj:j<i) (hjl:j<w.l.length),isN s w.l[j] =false) (fun i=>w.l.length-i) 0 mixed tOk ⟨by omega,fun j hj=>by omega⟩ ?_ ?_
 ·refine qag ?_ ?_<;>repeat' (first|exact trivial|exact rfl|apply And.intro)
 ·rintro i ⟨hi,hno⟩
  conv=>whnf
  refine qaf (fun hlt=> ?_) (fun hge=> ?_)
  ·have hlt':i<w.l.length:=by omega
   conv=>whnf
   refine qae (obD w.l[i]) (qdT hlt') (by omega) (qcc w.l) ?_
   conv=>whnf
   have en:(w.l[i].nm==s)=isN s w.l[i] :=by rw [isN,qbN]
   refine qby (fun h1=> ?_) (fun h1=> ?_)
   ·rw [en] at h1
    rw [qeQ hlt' (fun j hj=>hno j hj (by omega)) h1]
    conv=>whnf
    refine ⟨?_, ?_,trivial⟩
    ·conv=>whnf
     rw [Int.max_def];split<;>omega
    ·conv=>whnf
     exact (decide_eq_true (by omega)).symm
   ·rw [en] at h1
    conv=>whnf
    refine qak (by omega) ?_
    conv=>whnf
    refine ⟨i+1,⟨by omega,fun j hj hjl=> ?_⟩,by omega, ?_⟩
    ·by_cases hji:j=i
     ·subst hji;exact h1
     ·exact hno j (by omega) hjl
    rw [Int.natCast_succ]
    refine qag ?_ ?_<;>repeat' (first|exact trivial|exact rfl|apply And.intro)
  ·have:i=w.l.length:=by omega
   subst this
   rw [qge (fun j hj=>hno j hj hj)]
   conv=>whnf
   exact ⟨rfl,rfl,trivial⟩
theorem qn4{n:Nat}{x:Ob}(h:SzO n x):Fun Tryz.prog 29 [obD x] [i64 (obE x)] :=by
 have hp:=qp9 x.o x.hs h.hn h.lo (by have:=h.lh;omega) h.o h.h h.ll
 refine qad (fun t=>false) mixed tOk Tryz.func29 rfl rfl ?_
 conv=>whnf
 refine qaa rfl rfl (qvN x.nm) ?_
 conv=>whnf
 refine qbu (fun c1=> ?_) (fun c1=> ?_)
 ·rw [qwJ c1]
  conv=>whnf
  exact ⟨rfl,trivial⟩
 ·rw [qsl c1]
  conv=>whnf
  refine qaa rfl rfl hp ?_
  conv=>whnf
  refine ⟨?_,trivial⟩
  conv=>whnf
theorem qzD{α:Type}{g:α->Bool}{l:List α}{i:Nat}(h:i<l.length)(hg:g l[i] =true):((max (qef g l) 0<i->(l.take i).any g=true)/\((l.take i).any g=true->0<=qef g l/\qef g l<i)):=by
 unfold qef
 cases hf:l.findIdx? g with
 |none=>
  rw [List.findIdx?_eq_none_iff] at hf
  have:=hf _ (List.getElem_mem h)
  rw [hg] at this
  exact absurd this (by decide)
 |some j=>
  rw [List.findIdx?_eq_some_iff_getElem] at hf
  obtain ⟨hj,h1,h2⟩:=hf
  refine ⟨fun k=> ?_,fun k=> ?_⟩
  ·have k':max (j:Int) 0<i:=k
   have hji:j<i:=by omega
   rw [List.any_eq_true]
   refine ⟨l[j], ?_,h1⟩
   rw [List.mem_take_iff_getElem]
   exact ⟨j,by omega,rfl⟩
  ·obtain ⟨x,hx,hgx⟩:=List.any_eq_true.1 k
   rw [List.mem_take_iff_getElem] at hx
   obtain ⟨m,hm,rfl⟩:=hx
   show (0:Int)<=(j:Int)/\(j:Int)<i
   refine ⟨by omega, ?_⟩
   by_cases hmj:j<=m
   ·omega
   ·have:=h2 m (by omega)
    rw [hgx] at this
    exact absurd this (by simp)
theorem qpX{n:Nat}{w:Ws}(h:SzW n w)(hl:w.l.length<1000000000000000):Fun Tryz.prog 47 [wsD w] [i64 (wsE w)] :=by
 have hll:(oL w.l).length=w.l.length:=by simp
 refine qad (fun t=>false) mixed tOk Tryz.func47 rfl rfl ?_
 conv=>whnf
 refine qaa rfl rfl (qth w.a w.b w.c w.d h.a h.b h.c h.d) ?_
 conv=>whnf
 refine qbu (fun c1=> ?_) (fun c1=> ?_)
 ·have e:wsE w=1:=by unfold wsE;rw [if_pos c1]
  rw [e]
  conv=>whnf
  exact ⟨rfl,trivial⟩
 ·conv=>whnf
  refine qaf (fun c2=> ?_) (fun c2=> ?_)
  ·have e:wsE w=4:=by unfold wsE;rw [if_neg (by rw [c1];decide),if_pos (by omega)]
   rw [e]
   conv=>whnf
   exact ⟨rfl,trivial⟩
  ·have e:wsE w=scE [] w.l:=by unfold wsE;rw [if_neg (by rw [c1];decide),if_neg (by omega)]
   rw [e]
   conv=>whnf
   refine qah (fun t=>false) (fun i:Nat=>⟨fr 45 [(1,.d (.p 0 (wsD w).cells)),(3,.d (i64 i))], []⟩) (fun i=>i<=w.l.length/\scE [] w.l=scE (w.l.take i) (w.l.drop i)) (fun i=>w.l.length-i) 0 mixed tOk ⟨by omega,rfl⟩ ?_ ?_
   ·refine qag ?_ ?_<;>repeat' (first|exact trivial|exact rfl|apply And.intro)
   ·rintro i ⟨hi,hs⟩
    conv=>whnf
    refine qaf (fun hlt=> ?_) (fun hge=> ?_)
    ·have hlt':i<w.l.length:=by omega
     have hsx:=h.l _ (List.getElem_mem hlt')
     rw [List.drop_eq_getElem_cons hlt',scE] at hs
     conv=>whnf
     refine qae (obD w.l[i]) (qdT hlt') (by omega) (qcc w.l) ?_
     conv=>whnf
     refine qaa rfl rfl (qn4 hsx) ?_
     conv=>whnf
     refine qav (fun k1=> ?_) (fun k1=> ?_)
     ·rw [hs,if_pos k1]
      conv=>whnf
      exact ⟨rfl,trivial⟩
     ·rw [if_neg (fun h=>h k1)] at hs
      conv=>whnf
      refine qae (obD w.l[i]) (qdT hlt') (by omega) (qcc w.l) ?_
      conv=>whnf
      refine qab (qwP w w.l[i].nm hl) ?_
      conv=>whnf
      refine qac (by kernel_rfl) ?_
      conv=>whnf
      have hii:isN w.l[i].nm w.l[i] =true:=decide_eq_true rfl
      have hlo:=qzD (g:=isN w.l[i].nm) hlt' hii
      refine qaf (fun k2=> ?_) (fun k2=> ?_)
      ·rw [hs,if_pos (hlo.1 (by omega))]
       conv=>whnf
       exact ⟨rfl,trivial⟩
      ·rw [if_neg (fun k=>k2 (by have:=hlo.2 k;omega))] at hs
       conv=>whnf
       refine qak (by omega) ?_
       conv=>whnf
       refine ⟨i+1,⟨by omega, ?_⟩,by omega, ?_⟩
       ·rw [hs,List.take_succ_eq_append_getElem hlt']
       rw [Int.natCast_succ]
       refine qag ?_ ?_<;>repeat' (first|exact trivial|exact rfl|apply And.intro)
    ·have hiE:i=w.l.length:=by omega
     subst hiE
     rw [List.drop_length,scE] at hs
     rw [hs]
     conv=>whnf
     exact ⟨rfl,trivial⟩
def lgR(r:RD):Bool:=decide (10<r.num.size)||decide (10<r.den.size)
def lgP(p:RD×RD):Bool:=lgR p.1||lgR p.2
def lgL(l:List (RD×RD)):Bool:=l.any lgP
theorem qg1(ps:List (RD×RD))(hl:ps.length<1000000000000000):Fun Tryz.prog 76 [.l (rL ps)] [.v (.bool (lgL ps))] :=by
 have hll:(rL ps).length=ps.length:=by simp
 have hu:=qk2 ps
 unfold lgL
 refine qad (fun t=>false) mixed tOk Tryz.func76 rfl rfl ?_
 conv=>whnf
 refine qah (fun t=>false) (fun i:Nat=>⟨fr 48 [(0,.d (.l (rL ps))),(3,.d (i64 i))], []⟩) (fun i=>i<=ps.length/\(ps.take i).any lgP=false) (fun i=>ps.length-i) 0 mixed tOk ⟨by omega,rfl⟩ ?_ ?_
 ·refine qag ?_ ?_<;>repeat' (first|exact trivial|exact rfl|apply And.intro)
 ·rintro i ⟨hi,hno⟩
  conv=>whnf
  refine qaf (fun hlt=> ?_) (fun hge=> ?_)
  ·have hlt':i<ps.length:=by omega
   have hg:(rL ps)[(i:Int).toNat]? =some (ptR ps[i].1 ps[i].2):=qnu hlt'
   have yes:lgP ps[i] =true->ps.any lgP=true:=fun h=>List.any_eq_true.2 ⟨ps[i],List.getElem_mem _,h⟩
   conv=>whnf
   refine qae (ptR ps[i].1 ps[i].2) hg (by omega) hu ?_
   conv=>whnf
   refine qaf (fun k1=> ?_) (fun k1=> ?_)
   ·rw [yes (by unfold lgP lgR;simp;omega)]
    conv=>whnf
    exact ⟨rfl,trivial⟩
   conv=>whnf
   refine qae (ptR ps[i].1 ps[i].2) hg (by omega) hu ?_
   conv=>whnf
   refine qaf (fun k2=> ?_) (fun k2=> ?_)
   ·rw [yes (by unfold lgP lgR;simp;omega)]
    conv=>whnf
    exact ⟨rfl,trivial⟩
   conv=>whnf
   refine qae (ptR ps[i].1 ps[i].2) hg (by omega) hu ?_
   conv=>whnf
   refine qaf (fun k3=> ?_) (fun k3=> ?_)
   ·rw [yes (by unfold lgP lgR;simp;omega)]
    conv=>whnf
    exact ⟨rfl,trivial⟩
   conv=>whnf
   refine qae (ptR ps[i].1 ps[i].2) hg (by omega) hu ?_
   conv=>whnf
   refine qaf (fun k4=> ?_) (fun k4=> ?_)
   ·rw [yes (by unfold lgP lgR;simp;omega)]
    conv=>whnf
    exact ⟨rfl,trivial⟩
   conv=>whnf
   refine qak (by omega) ?_
   conv=>whnf
   refine ⟨i+1,⟨by omega, ?_⟩,by omega, ?_⟩
   ·rw [List.take_succ_eq_append_getElem hlt',List.any_append,hno]
    unfold lgP lgR
    simp
    omega
   rw [Int.natCast_succ]
   refine qag ?_ ?_<;>repeat' (first|exact trivial|exact rfl|apply And.intro)
  ·have:i=ps.length:=by omega
   subst this
   rw [List.take_length] at hno
   rw [hno]
   conv=>whnf
   exact ⟨rfl,trivial⟩
abbrev Pg:=List (RD×RD)×List (List (RD×RD))
noncomputable def gL(l:List Pg):List D:=l.map fun p=>pgR p.1 p.2
@[simp] theorem qub(l:List Pg):(gL l).length=l.length:=List.length_map ..
theorem qcW(l:List Pg):Uni 2 (gL l):=by
 intro x hx
 obtain ⟨i,_,rfl⟩:=List.mem_map.1 hx
 rfl
theorem quz{l:List Pg}{i:Nat}(h:i<l.length):(gL l)[(i:Int).toNat]? =some (pgR l[i].1 l[i].2):=by
 unfold gL;simp [h]
def qfa(hs:List (List (RD×RD))):Nat:=(hs.map List.length).sum
def nPg(p:Pg):Nat:=p.1.length+qfa p.2
def qib(l:List Pg):Nat:=(l.map nPg).sum
def bdP(p:Pg):Bool:=lgL p.1||decide (9<p.2.length)||p.2.any lgL
@[irreducible] def g20(a b c d:RD)(l:List Pg):Bool:=decide ((4<l.length/\l.length<=32)\/34<l.length)||lgL [(a,b),(c,d)] ||l.any bdP||decide (14<qib l)
structure qzy (p:Pg):Prop where
 o:p.1.length<1000000000000000
 h:p.2.length<1000000000000000
 l: ∀x∈p.2,x.length<1000000000000000
theorem qi5: ∀(hs:List (List (RD×RD))),(∀x∈hs,x.length<1000000000000000)->qfa hs<=hs.length*1000000000000000
 | [],_=>by simp [qfa]
 |x::t,h=>by
  have ih:=qi5 t (fun y hy=>h y (List.mem_cons_of_mem _ hy))
  have:=h x (List.mem_cons_self ..)
  unfold qfa at ih ⊢
  rw [List.map_cons,List.sum_cons,List.length_cons]
  omega
theorem qnA(a b:List (List (RD×RD))):qfa (a++b)=qfa a+qfa b:=by
 unfold qfa;rw [List.map_append,List.sum_append_nat]
theorem qm1(a b:List Pg):qib (a++b)=qib a+qib b:=by
 unfold qib;rw [List.map_append,List.sum_append_nat]
theorem ql1: ∀(l:List Pg),(∀p∈l,qzy p)->l.any bdP=false->qib l<=l.length*10000000000000000
 | [],_,_=>by simp [qib]
 |x::t,h,hb=>by
  rw [List.any_cons,Bool.or_eq_false_iff] at hb
  have ih:=ql1 t (fun y hy=>h y (List.mem_cons_of_mem _ hy)) hb.2
  have hx:=h x (List.mem_cons_self ..)
  have:=hx.o
  have h2:=qi5 x.2 hx.l
  have hb1:=hb.1
  unfold bdP at hb1
  simp only [Bool.or_eq_false_iff,decide_eq_false_iff_not] at hb1
  have h3:=hb1.1.2
  unfold qib at ih ⊢
  rw [List.map_cons,List.sum_cons,List.length_cons]
  rw [show nPg x=x.1.length+qfa x.2 from rfl]
  have h4:x.2.length*1000000000000000<=9*1000000000000000:=Nat.mul_le_mul_right _ (by omega)
  omega
theorem qg4(a b c d:RD)(l:List Pg)(hl:l.length<1000000000000000)(h: ∀p∈l,qzy p):Fun Tryz.prog 23 [quR a b c d,.l (gL l)] [.v (.bool (g20 a b c d l))] :=by
 have hll:(gL l).length=l.length:=by simp
 have hbx:=qg1 [(a,b),(c,d)] (by simp)
 refine qad (fun t=>false) mixed tOk Tryz.func23 rfl rfl ?_
 conv=>whnf
 refine qaf (fun d1=> ?_) (fun d1=> ?_)
 ·conv=>whnf
  refine qaf (fun d2=> ?_) (fun d2=> ?_)
  ·conv=>whnf
   rw [show g20 a b c d l=true by unfold g20;rw [decide_eq_true (by omega)];rfl]
   exact ⟨rfl,trivial⟩
  ·conv=>whnf
   refine qaf (fun d3=> ?_) (fun d3=> ?_)
   ·conv=>whnf
    rw [show g20 a b c d l=true by unfold g20;rw [decide_eq_true (by omega)];rfl]
    exact ⟨rfl,trivial⟩
   ·have Z0: ¬((4<l.length/\l.length<=32)\/34<l.length):=by omega
    conv=>whnf
    refine qaa rfl rfl hbx ?_
    conv=>whnf
    refine qal (fun c1=> ?_) (fun c1=> ?_)
    ·rw [show g20 a b c d l=true by unfold g20;rw [c1];simp]
     conv=>whnf
     exact ⟨rfl,trivial⟩
    ·conv=>whnf
     have hb14:(l.any bdP=true->g20 a b c d l=true):=fun k=>by unfold g20;rw [k];simp
     refine qah (fun t=>false) (fun i:Nat=>⟨fr 90 [(1,.d (.l (gL l))),(5,.d (i64 (qib (l.take i):Nat))),(6,.d (i64 i))], []⟩) (fun i=>i<=l.length/\(l.take i).any bdP=false) (fun i=>l.length-i) 0 mixed tOk ⟨by omega,rfl⟩ ?_ ?_
     ·refine qag ?_ ?_<;>repeat' (first|exact trivial|exact rfl|apply And.intro)
     ·rintro i ⟨hi,hno⟩
      have hgs:=ql1 (l.take i) (fun p hp=>h p (List.mem_of_mem_take hp)) hno
      have hti:(l.take i).length=i:=by rw [List.length_take];omega
      rw [hti] at hgs
      conv=>whnf
      refine qaf (fun hlt=> ?_) (fun hge=> ?_)
      ·have hlt':i<l.length:=by omega
       have hp:=h _ (List.getElem_mem hlt')
       have hget:=quz hlt'
       have hts:qib (l.take (i+1))=qib (l.take i)+nPg l[i] :=by
        rw [List.take_succ_eq_append_getElem hlt',qm1];simp [qib]
       have htb:(l.take (i+1)).any bdP=bdP l[i] :=by
        rw [List.take_succ_eq_append_getElem hlt',List.any_append,hno];simp
       have yes:bdP l[i] =true->l.any bdP=true:=fun k=>List.any_eq_true.2 ⟨l[i],List.getElem_mem _,k⟩
       generalize qib (l.take i)=G at*
       generalize l[i] =p at*
       obtain ⟨o,hs⟩:=p
       have hpo:=hp.o
       have hph:=hp.h
       have hpl:=hp.l
       simp only at hpo hph hpl hget
       have hlo:(rL o).length=o.length:=by simp
       have hlh:(hR hs).length=hs.length:=by simp
       conv=>whnf
       refine qae (pgR o hs) hget (by omega) (qcW _) ?_
       conv=>whnf
       refine qak (by omega) ?_
       conv=>whnf
       refine qae (pgR o hs) hget (by omega) (qcW _) ?_
       conv=>whnf
       refine qaa rfl rfl (qg1 o hpo) ?_
       conv=>whnf
       refine qal (fun k1=> ?_) (fun k1=> ?_)
       ·rw [hb14 (yes (by unfold bdP;rw [k1];rfl))]
        conv=>whnf
        exact ⟨rfl,trivial⟩
       ·conv=>whnf
        refine qae (pgR o hs) hget (by omega) (qcW _) ?_
        conv=>whnf
        refine qaf (fun k2=> ?_) (fun k2=> ?_)
        ·rw [hb14 (yes (by unfold bdP;simp only;rw [k1,decide_eq_true (by omega)];rfl))]
         conv=>whnf
         exact ⟨rfl,trivial⟩
        ·conv=>whnf
         have hnp:nPg (o,hs)=o.length+qfa hs:=rfl
         have hany:hs.any lgL=true->l.any bdP=true:=fun k=>yes (by unfold bdP;simp only;rw [k];simp)
         refine qah (fun t=>false) (fun k:Nat=>⟨fr 90 [(1,.d (.l (gL l))),(5,.d (i64 (G+o.length+qfa (hs.take k):Nat))),(6,.d (i64 i)),(7,.d (i64 k))], []⟩) (fun k=>k<=hs.length/\(hs.take k).any lgL=false) (fun k=>hs.length-k) 0 mixed tOk ⟨by omega,rfl⟩ ?_ ?_
         ·rw [show ((G+o.length+qfa (hs.take 0):Nat):Int)=(G:Int)+((rL o).length:Int) by rw [show qfa (hs.take 0)=0 from rfl];omega]
          refine qag ?_ ?_<;>repeat' (first|exact trivial|exact rfl|apply And.intro)
         ·rintro k ⟨hk,hnk⟩
          have hsl:=qi5 (hs.take k) (fun x hx=>hpl x (List.mem_of_mem_take hx))
          have htk:(hs.take k).length=k:=by rw [List.length_take];omega
          rw [htk] at hsl
          have hk9:k*1000000000000000<=9*1000000000000000:=Nat.mul_le_mul_right _ (by omega)
          conv=>whnf
          refine qae (pgR o hs) hget (by omega) (qcW _) ?_
          conv=>whnf
          refine qaf (fun hlt2=> ?_) (fun hge2=> ?_)
          ·have hk':k<hs.length:=by omega
           have hx:=hpl _ (List.getElem_mem hk')
           have hxl:(rL hs[k]).length=hs[k].length:=by simp
           have hts2:qfa (hs.take (k+1))=qfa (hs.take k)+hs[k].length:=by
            rw [List.take_succ_eq_append_getElem hk',qnA];simp [qfa]
           have htb2:(hs.take (k+1)).any lgL=lgL hs[k] :=by
            rw [List.take_succ_eq_append_getElem hk',List.any_append,hnk];simp
           have hget2:=qix hk'
           have hyes:lgL hs[k] =true->hs.any lgL=true:=fun q=>List.any_eq_true.2 ⟨hs[k],List.getElem_mem _,q⟩
           generalize hs[k] =x at*
           conv=>whnf
           refine qae (pgR o hs) hget (by omega) (qcW _) ?_
           conv=>whnf
           refine qae (.l (rL x)) hget2 (by omega) (qdl _) ?_
           conv=>whnf
           refine qak (by omega) ?_
           conv=>whnf
           refine qae (pgR o hs) hget (by omega) (qcW _) ?_
           conv=>whnf
           refine qae (.l (rL x)) hget2 (by omega) (qdl _) ?_
           conv=>whnf
           refine qaa rfl rfl (qg1 x hx) ?_
           conv=>whnf
           refine qal (fun q=> ?_) (fun q=> ?_)
           ·rw [hb14 (hany (hyes q))]
            conv=>whnf
            exact ⟨rfl,trivial⟩
           ·conv=>whnf
            refine qak (by omega) ?_
            conv=>whnf
            refine ⟨k+1,⟨by omega,by rw [htb2];exact q⟩,by omega, ?_⟩
            rw [hts2,show ((G+o.length+(qfa (hs.take k)+x.length):Nat):Int)=((G+o.length+qfa (hs.take k):Nat):Int)+((rL x).length:Int) by omega,Int.natCast_succ]
            refine qag ?_ ?_<;>repeat' (first|exact trivial|exact rfl|apply And.intro)
          ·have hkE:k=hs.length:=by omega
           subst hkE
           rw [List.take_length] at hnk ⊢
           conv=>whnf
           refine qak (by omega) ?_
           conv=>whnf
           refine ⟨i+1,⟨by omega, ?_⟩,by omega, ?_⟩
           ·rw [htb]
            unfold bdP
            simp only
            rw [k1,hnk,decide_eq_false (by omega)]
            rfl
           rw [hts,hnp, <-Nat.add_assoc,Int.natCast_succ]
           refine qag ?_ ?_<;>repeat' (first|exact trivial|exact rfl|apply And.intro)
      ·have hiE:i=l.length:=by omega
       subst hiE
       rw [List.take_length] at hno ⊢
       have e:g20 a b c d l=decide (14<qib l):=by
        unfold g20
        rw [decide_eq_false Z0,c1,hno];rfl
       rw [e]
       conv=>whnf
       refine ⟨?_,trivial⟩
       conv=>whnf
       rw [qaH,decide_eq_decide]
       omega
 ·conv=>whnf
  refine qaf (fun d3=> ?_) (fun d3=> ?_)
  ·exact absurd d3 (by omega)
  ·have Z0: ¬((4<l.length/\l.length<=32)\/34<l.length):=by omega
   conv=>whnf
   refine qaa rfl rfl hbx ?_
   conv=>whnf
   refine qal (fun c1=> ?_) (fun c1=> ?_)
   ·rw [show g20 a b c d l=true by unfold g20;rw [c1];simp]
    conv=>whnf
    exact ⟨rfl,trivial⟩
   ·conv=>whnf
    have hb14:(l.any bdP=true->g20 a b c d l=true):=fun k=>by unfold g20;rw [k];simp
    refine qah (fun t=>false) (fun i:Nat=>⟨fr 90 [(1,.d (.l (gL l))),(5,.d (i64 (qib (l.take i):Nat))),(6,.d (i64 i))], []⟩) (fun i=>i<=l.length/\(l.take i).any bdP=false) (fun i=>l.length-i) 0 mixed tOk ⟨by omega,rfl⟩ ?_ ?_
    ·refine qag ?_ ?_<;>repeat' (first|exact trivial|exact rfl|apply And.intro)
    ·rintro i ⟨hi,hno⟩
     have hgs:=ql1 (l.take i) (fun p hp=>h p (List.mem_of_mem_take hp)) hno
     have hti:(l.take i).length=i:=by rw [List.length_take];omega
     rw [hti] at hgs
     conv=>whnf
     refine qaf (fun hlt=> ?_) (fun hge=> ?_)
     ·have hlt':i<l.length:=by omega
      have hp:=h _ (List.getElem_mem hlt')
      have hget:=quz hlt'
      have hts:qib (l.take (i+1))=qib (l.take i)+nPg l[i] :=by
       rw [List.take_succ_eq_append_getElem hlt',qm1];simp [qib]
      have htb:(l.take (i+1)).any bdP=bdP l[i] :=by
       rw [List.take_succ_eq_append_getElem hlt',List.any_append,hno];simp
      have yes:bdP l[i] =true->l.any bdP=true:=fun k=>List.any_eq_true.2 ⟨l[i],List.getElem_mem _,k⟩
      generalize qib (l.take i)=G at*
      generalize l[i] =p at*
      obtain ⟨o,hs⟩:=p
      have hpo:=hp.o
      have hph:=hp.h
      have hpl:=hp.l
      simp only at hpo hph hpl hget
      have hlo:(rL o).length=o.length:=by simp
      have hlh:(hR hs).length=hs.length:=by simp
      conv=>whnf
      refine qae (pgR o hs) hget (by omega) (qcW _) ?_
      conv=>whnf
      refine qak (by omega) ?_
      conv=>whnf
      refine qae (pgR o hs) hget (by omega) (qcW _) ?_
      conv=>whnf
      refine qaa rfl rfl (qg1 o hpo) ?_
      conv=>whnf
      refine qal (fun k1=> ?_) (fun k1=> ?_)
      ·rw [hb14 (yes (by unfold bdP;rw [k1];rfl))]
       conv=>whnf
       exact ⟨rfl,trivial⟩
      ·conv=>whnf
       refine qae (pgR o hs) hget (by omega) (qcW _) ?_
       conv=>whnf
       refine qaf (fun k2=> ?_) (fun k2=> ?_)
       ·rw [hb14 (yes (by unfold bdP;simp only;rw [k1,decide_eq_true (by omega)];rfl))]
        conv=>whnf
        exact ⟨rfl,trivial⟩
       ·conv=>whnf
        have hnp:nPg (o,hs)=o.length+qfa hs:=rfl
        have hany:hs.any lgL=true->l.any bdP=true:=fun k=>yes (by unfold bdP;simp only;rw [k];simp)
        refine qah (fun t=>false) (fun k:Nat=>⟨fr 90 [(1,.d (.l (gL l))),(5,.d (i64 (G+o.length+qfa (hs.take k):Nat))),(6,.d (i64 i)),(7,.d (i64 k))], []⟩) (fun k=>k<=hs.length/\(hs.take k).any lgL=false) (fun k=>hs.length-k) 0 mixed tOk ⟨by omega,rfl⟩ ?_ ?_
        ·rw [show ((G+o.length+qfa (hs.take 0):Nat):Int)=(G:Int)+((rL o).length:Int) by rw [show qfa (hs.take 0)=0 from rfl];omega]
         refine qag ?_ ?_<;>repeat' (first|exact trivial|exact rfl|apply And.intro)
        ·rintro k ⟨hk,hnk⟩
         have hsl:=qi5 (hs.take k) (fun x hx=>hpl x (List.mem_of_mem_take hx))
         have htk:(hs.take k).length=k:=by rw [List.length_take];omega
         rw [htk] at hsl
         have hk9:k*1000000000000000<=9*1000000000000000:=Nat.mul_le_mul_right _ (by omega)
         conv=>whnf
         refine qae (pgR o hs) hget (by omega) (qcW _) ?_
         conv=>whnf
         refine qaf (fun hlt2=> ?_) (fun hge2=> ?_)
         ·have hk':k<hs.length:=by omega
          have hx:=hpl _ (List.getElem_mem hk')
          have hxl:(rL hs[k]).length=hs[k].length:=by simp
          have hts2:qfa (hs.take (k+1))=qfa (hs.take k)+hs[k].length:=by
           rw [List.take_succ_eq_append_getElem hk',qnA];simp [qfa]
          have htb2:(hs.take (k+1)).any lgL=lgL hs[k] :=by
           rw [List.take_succ_eq_append_getElem hk',List.any_append,hnk];simp
          have hget2:=qix hk'
          have hyes:lgL hs[k] =true->hs.any lgL=true:=fun q=>List.any_eq_true.2 ⟨hs[k],List.getElem_mem _,q⟩
          generalize hs[k] =x at*
          conv=>whnf
          refine qae (pgR o hs) hget (by omega) (qcW _) ?_
          conv=>whnf
          refine qae (.l (rL x)) hget2 (by omega) (qdl _) ?_
          conv=>whnf
          refine qak (by omega) ?_
          conv=>whnf
          refine qae (pgR o hs) hget (by omega) (qcW _) ?_
          conv=>whnf
          refine qae (.l (rL x)) hget2 (by omega) (qdl _) ?_
          conv=>whnf
          refine qaa rfl rfl (qg1 x hx) ?_
          conv=>whnf
          refine qal (fun q=> ?_) (fun q=> ?_)
          ·rw [hb14 (hany (hyes q))]
           conv=>whnf
           exact ⟨rfl,trivial⟩
          ·conv=>whnf
           refine qak (by omega) ?_
           conv=>whnf
           refine ⟨k+1,⟨by omega,by rw [htb2];exact q⟩,by omega, ?_⟩
           rw [hts2,show ((G+o.length+(qfa (hs.take k)+x.length):Nat):Int)=((G+o.length+qfa (hs.take k):Nat):Int)+((rL x).length:Int) by omega,Int.natCast_succ]
           refine qag ?_ ?_<;>repeat' (first|exact trivial|exact rfl|apply And.intro)
         ·have hkE:k=hs.length:=by omega
          subst hkE
          rw [List.take_length] at hnk ⊢
          conv=>whnf
          refine qak (by omega) ?_
          conv=>whnf
          refine ⟨i+1,⟨by omega, ?_⟩,by omega, ?_⟩
          ·rw [htb]
           unfold bdP
           simp only
           rw [k1,hnk,decide_eq_false (by omega)]
           rfl
          rw [hts,hnp, <-Nat.add_assoc,Int.natCast_succ]
          refine qag ?_ ?_<;>repeat' (first|exact trivial|exact rfl|apply And.intro)
     ·have hiE:i=l.length:=by omega
      subst hiE
      rw [List.take_length] at hno ⊢
      have e:g20 a b c d l=decide (14<qib l):=by
       unfold g20
       rw [decide_eq_false Z0,c1,hno];rfl
      rw [e]
      conv=>whnf
      refine ⟨?_,trivial⟩
      conv=>whnf
      rw [qaH,decide_eq_decide]
      omega
def pgO(x:Ob):Pg:=(x.o,x.hs)
def nG(x:Ob):Nat:=x.o.length+9*x.hs.length
def aG(l:List Ob):Nat:=(l.map nG).sum
theorem qzP(a b:List Ob):aG (a++b)=aG a+aG b:=by
 unfold aG;rw [List.map_append,List.sum_append_nat]
def scG(a b c d:RD):Nat->List Ob->Bool
 |_, [] =>false
 |n,x::t=>if 100<n+nG x\/g20 a b c d [pgO x] =true then true else scG a b c d (n+nG x) t
@[irreducible] def g35(w:Ws):Bool:=if 31<w.l.length/\w.l.length<=33 then scG w.a w.b w.c w.d 0 w.l else decide (4<w.l.length)||g20 w.a w.b w.c w.d (w.l.map pgO)
theorem qoW(w:Ws)(hl:w.l.length<=2199023255552)(h: ∀x∈w.l,qzy (pgO x)):Fun Tryz.prog 35 [wsD w] [.v (.bool (g35 w))] :=by
 have hll:(oL w.l).length=w.l.length:=by simp
 refine qad (fun t=>t==5||t==50) mixed tOk Tryz.func35 rfl rfl ?_
 conv=>whnf
 refine qaf (fun d1=> ?_) (fun d1=> ?_)
 ·conv=>whnf
  refine qaf (fun d2=> ?_) (fun d2=> ?_)
  ·have e:g35 w=scG w.a w.b w.c w.d 0 w.l:=by unfold g35;rw [if_pos (by omega)]
   rw [e]
   conv=>whnf
   refine qah (fun t=>t==5||t==50) (fun i:Nat=>⟨fr 77 [(1,.d (.p 0 (wsD w).cells)),(3,.d (i64 (aG (w.l.take i):Nat))),(4,.d (i64 i))], []⟩) (fun i=>i<=w.l.length/\scG w.a w.b w.c w.d 0 w.l=scG w.a w.b w.c w.d (aG (w.l.take i)) (w.l.drop i)/\aG (w.l.take i)<=100) (fun i=>w.l.length-i) 0 mixed tOk ⟨by omega,rfl,by show 0<=100;omega⟩ ?_ ?_
   ·refine qag ?_ ?_<;>repeat' (first|exact trivial|exact rfl|apply And.intro)
   ·rintro i ⟨hi,hs,ha⟩
    conv=>whnf
    refine qaf (fun hlt=> ?_) (fun hge=> ?_)
    ·have hlt':i<w.l.length:=by omega
     have hx:=h _ (List.getElem_mem hlt')
     have hget:=qdT hlt'
     have hta:aG (w.l.take (i+1))=aG (w.l.take i)+nG w.l[i] :=by
      rw [List.take_succ_eq_append_getElem hlt',qzP];simp [aG]
     rw [List.drop_eq_getElem_cons hlt',scG] at hs
     generalize aG (w.l.take i)=A at*
     generalize w.l[i] =x at*
     have hxo:=hx.o
     have hxh:=hx.h
     simp only [pgO] at hxo hxh
     have hlo:(rL x.o).length=x.o.length:=by simp
     have hlh:(hR x.hs).length=x.hs.length:=by simp
     have hnx:nG x=x.o.length+9*x.hs.length:=rfl
     conv=>whnf
     refine qae (obD x) hget (by omega) (qcc w.l) ?_
     conv=>whnf
     refine qak (by omega) ?_
     conv=>whnf
     refine qak (by omega) ?_
     conv=>whnf
     refine qak (by omega) ?_
     conv=>whnf
     refine qaf (fun k1=> ?_) (fun k1=> ?_)
     ·rw [hs,if_pos (.inl (by omega))]
      conv=>whnf
      exact ⟨rfl,trivial⟩
     ·conv=>whnf
      refine qaa rfl rfl (qg4 w.a w.b w.c w.d [pgO x] (by simp) (fun p hp=>by rw [List.mem_singleton.1 hp];exact hx)) ?_
      conv=>whnf
      refine qal (fun k2=> ?_) (fun k2=> ?_)
      ·rw [hs,if_pos (.inr k2)]
       conv=>whnf
       exact ⟨rfl,trivial⟩
      ·rw [if_neg (fun q=>q.elim (fun q=>by omega) (fun q=>absurd q (by rw [k2];decide)))] at hs
       conv=>whnf
       refine qak (by omega) ?_
       conv=>whnf
       refine ⟨i+1,⟨by omega,by rw [hta];exact hs,by omega⟩,by omega, ?_⟩
       rw [hta,hnx,show ((A+(x.o.length+9*x.hs.length):Nat):Int)=(A:Int)+(((rL x.o).length:Int)+9*((hR x.hs).length:Int)) by omega,Int.natCast_succ]
       refine qaj 0 rfl ?_
       refine qag ?_ ?_<;>repeat' (first|exact trivial|exact rfl|apply And.intro)
    ·have hiE:i=w.l.length:=by omega
     subst hiE
     rw [List.drop_length,scG] at hs
     rw [hs]
     conv=>whnf
     exact ⟨rfl,trivial⟩
  ·have Z0: ¬(31<w.l.length/\w.l.length<=33):=by omega
   have e:g35 w=(decide (4<w.l.length)||g20 w.a w.b w.c w.d (w.l.map pgO)):=by unfold g35;rw [if_neg Z0]
   rw [e]
   conv=>whnf
   refine qah (fun t=>t==5||t==50) (fun i:Nat=>⟨fr 77 [(1,.d (.p 0 (wsD w).cells)),(6,.own 0 0),(7,.d (i64 i))], [.row 0 43 2 48 (gL ((w.l.take i).map pgO))]⟩) (fun i=>i<=w.l.length) (fun i=>w.l.length-i) 0 mixed tOk (by omega) ?_ ?_
   ·refine qag ?_ ?_<;>repeat' (first|exact trivial|exact rfl|apply And.intro)
   ·intro i hi
    conv=>whnf
    refine qaf (fun hlt=> ?_) (fun hge=> ?_)
    ·have hlt':i<w.l.length:=by omega
     conv=>whnf
     refine qae (obD w.l[i]) (qdT hlt') (by omega) (qcc w.l) ?_
     conv=>whnf
     have hgl:(gL ((w.l.take i).map pgO)).length=i:=by rw [qub,List.length_map,List.length_take];omega
     refine qca (qcW _) (by intro x hx;rcases List.mem_singleton.1 hx with rfl;rfl) (by rw [hgl];simp only [maxLen,List.length_cons,List.length_nil];omega) ?_
     conv=>whnf
     refine qak (by omega) ?_
     conv=>whnf
     refine ⟨i+1,by omega,by omega, ?_⟩
     rw [show gL ((w.l.take (i+1)).map pgO)=gL ((w.l.take i).map pgO)++ [pgR w.l[i].o w.l[i].hs] by
      rw [List.take_succ_eq_append_getElem hlt',List.map_append];unfold gL;rw [List.map_append];rfl,Int.natCast_succ]
     refine qag ?_ ?_<;>repeat' (first|exact trivial|exact rfl|apply And.intro)
    ·have hiE:i=w.l.length:=by omega
     subst hiE
     rw [List.take_length]
     conv=>whnf
     refine qaf (fun k1=> ?_) (fun k1=> ?_)
     ·have e4:decide (4<w.l.length)=true:=decide_eq_true (by omega)
      rw [e4]
      conv=>whnf
      exact ⟨rfl,trivial⟩
     ·have e4:decide (4<w.l.length)=false:=decide_eq_false (by omega)
      rw [e4,Bool.false_or]
      conv=>whnf
      refine qbn 0 ?_
      refine qaa rfl rfl (qg4 w.a w.b w.c w.d (w.l.map pgO) (by rw [List.length_map];omega) (fun p hp=>by obtain ⟨x,hx,rfl⟩:=List.mem_map.1 hp;exact h x hx)) ?_
      conv=>whnf
      refine ⟨?_,trivial⟩
      conv=>whnf
 ·have Z0: ¬(31<w.l.length/\w.l.length<=33):=by omega
  have e:g35 w=(decide (4<w.l.length)||g20 w.a w.b w.c w.d (w.l.map pgO)):=by unfold g35;rw [if_neg Z0]
  rw [e]
  conv=>whnf
  refine qah (fun t=>t==5||t==50) (fun i:Nat=>⟨fr 77 [(1,.d (.p 0 (wsD w).cells)),(6,.own 0 0),(7,.d (i64 i))], [.row 0 43 2 48 (gL ((w.l.take i).map pgO))]⟩) (fun i=>i<=w.l.length) (fun i=>w.l.length-i) 0 mixed tOk (by omega) ?_ ?_
  ·refine qag ?_ ?_<;>repeat' (first|exact trivial|exact rfl|apply And.intro)
  ·intro i hi
   conv=>whnf
   refine qaf (fun hlt=> ?_) (fun hge=> ?_)
   ·have hlt':i<w.l.length:=by omega
    conv=>whnf
    refine qae (obD w.l[i]) (qdT hlt') (by omega) (qcc w.l) ?_
    conv=>whnf
    have hgl:(gL ((w.l.take i).map pgO)).length=i:=by rw [qub,List.length_map,List.length_take];omega
    refine qca (qcW _) (by intro x hx;rcases List.mem_singleton.1 hx with rfl;rfl) (by rw [hgl];simp only [maxLen,List.length_cons,List.length_nil];omega) ?_
    conv=>whnf
    refine qak (by omega) ?_
    conv=>whnf
    refine ⟨i+1,by omega,by omega, ?_⟩
    rw [show gL ((w.l.take (i+1)).map pgO)=gL ((w.l.take i).map pgO)++ [pgR w.l[i].o w.l[i].hs] by
     rw [List.take_succ_eq_append_getElem hlt',List.map_append];unfold gL;rw [List.map_append];rfl,Int.natCast_succ]
    refine qag ?_ ?_<;>repeat' (first|exact trivial|exact rfl|apply And.intro)
   ·have hiE:i=w.l.length:=by omega
    subst hiE
    rw [List.take_length]
    conv=>whnf
    refine qaf (fun k1=> ?_) (fun k1=> ?_)
    ·have e4:decide (4<w.l.length)=true:=decide_eq_true (by omega)
     rw [e4]
     conv=>whnf
     exact ⟨rfl,trivial⟩
    ·have e4:decide (4<w.l.length)=false:=decide_eq_false (by omega)
     rw [e4,Bool.false_or]
     conv=>whnf
     refine qbn 0 ?_
     refine qaa rfl rfl (qg4 w.a w.b w.c w.d (w.l.map pgO) (by rw [List.length_map];omega) (fun p hp=>by obtain ⟨x,hx,rfl⟩:=List.mem_map.1 hp;exact h x hx)) ?_
     conv=>whnf
     refine ⟨?_,trivial⟩
     conv=>whnf
@[irreducible] def smW(w:Ws):Bool:= !g35 w&&decide (w.l.length<=4)
theorem qmf: ∀(l:List Nat) (n:Nat),n∈l->n<=l.sum
 | [],_,h=>by simp at h
 |x::t,n,h=>by
  rw [List.sum_cons]
  rcases List.mem_cons.1 h with rfl|h
  ·omega
  ·have:=qmf t n h;omega
theorem qiu{r:RD}(h:lgR r=false):Sz r:=by
 unfold lgR at h
 simp at h
 exact ⟨by omega,by omega⟩
theorem qyl{r:RD}(h:lgR r=false):gtR r=false:=by
 unfold lgR at h
 unfold gtR
 simp at h ⊢
 omega
theorem qtN{r:RD}(h:lgR r=false):Bd 12 r.val:=qx8 (qyl h)
theorem quL{p:RD×RD}(h:lgP p=false):BP 12 (vP p)/\SzP p:=by
 unfold lgP at h
 rw [Bool.or_eq_false_iff] at h
 exact ⟨⟨qtN h.1,qtN h.2⟩,qiu h.1,qiu h.2⟩
theorem quM{w:Ws}(h:g35 w=false)(hl:w.l.length<=4):SzW 12 w:=by
 unfold g35 at h
 rw [if_neg (by omega),Bool.or_eq_false_iff] at h
 have h2:=h.2
 unfold g20 at h2
 simp only [Bool.or_eq_false_iff] at h2
 obtain ⟨⟨⟨_,hb⟩,hp⟩,hs⟩:=h2
 have hs:=of_decide_eq_false hs
 unfold lgL at hb
 simp only [List.any_cons,List.any_nil,Bool.or_false,Bool.or_eq_false_iff,lgP] at hb
 refine ⟨qiu hb.1.1,qiu hb.1.2,qiu hb.2.1,qiu hb.2.2,fun x hx=> ?_⟩
 rw [List.any_eq_false] at hp
 have hx2:=hp (pgO x) (List.mem_map.2 ⟨x,hx,rfl⟩)
 have hx3:bdP (pgO x)=false:=by simpa using hx2
 unfold bdP at hx3
 simp only [Bool.or_eq_false_iff,decide_eq_false_iff_not] at hx3
 obtain ⟨⟨k1,k2⟩,k3⟩:=hx3
 have hle: ∀(l:List Pg) (p:Pg),p∈l->nPg p<=qib l:=fun l p hp=>by
  unfold qib
  exact qmf _ _ (List.mem_map.2 ⟨p,hp,rfl⟩)
 have hn:=hle _ _ (List.mem_map.2 ⟨x,hx,rfl⟩:pgO x∈w.l.map pgO)
 have hn2:nPg (pgO x)=x.o.length+qfa x.hs:=rfl
 have hle2: ∀y∈x.hs,y.length<=qfa x.hs:=fun y hy=>by
  unfold qfa
  exact qmf _ _ (List.mem_map.2 ⟨y,hy,rfl⟩)
 refine ⟨by omega,fun p hp=> ?_,fun y hy p hp=> ?_,by omega,by have k4: ¬9<x.hs.length:=k2;omega,fun y hy=>by have:=hle2 y hy;omega⟩
 ·unfold lgL at k1
  rw [List.any_eq_false] at k1
  exact quL (by simpa using k1 p hp)
 ·rw [List.any_eq_false] at k3
  have:=k3 y hy
  unfold lgL at this
  rw [Bool.not_eq_true,List.any_eq_false] at this
  exact quL (by simpa using this p hp)
theorem quY(w:Ws)(hl:w.l.length<=2199023255552)(h: ∀x∈w.l,qzy (pgO x)):Fun Tryz.prog 11 [wsD w] [.v (.bool (smW w&&decide (wsE w=0)))] :=by
 have hll:(oL w.l).length=w.l.length:=by simp
 refine qad (fun t=>false) mixed tOk Tryz.func11 rfl rfl ?_
 conv=>whnf
 refine qaa rfl rfl (qoW w hl h) ?_
 conv=>whnf
 refine qbu (fun c1=> ?_) (fun c1=> ?_)
 ·conv=>whnf
  refine qaf (fun c2=> ?_) (fun c2=> ?_)
  ·have hz:=quM c1 (by omega)
   conv=>whnf
   refine qaa rfl rfl (qpX hz (by omega)) ?_
   conv=>whnf
   refine ⟨?_,trivial⟩
   conv=>whnf
   unfold smW
   rw [c1,decide_eq_true (show w.l.length<=4 by omega),qaH]
   rfl
  ·conv=>whnf
   refine ⟨?_,trivial⟩
   conv=>whnf
   unfold smW
   rw [decide_eq_false (show¬w.l.length<=4 by omega),Bool.and_false,Bool.false_and]
 ·conv=>whnf
  refine ⟨?_,trivial⟩
  conv=>whnf
  unfold smW
  rw [c1];rfl
theorem qi7: ∀(l pre:List Ob),scE pre l=0-> ∀x∈l,obE x=0
 | [],_,_,x,hx=>by simp at hx
 |y::t,pre,h,x,hx=>by
  rw [scE] at h
  split at h
  ·rename_i k;exact absurd h k
  ·rename_i k
   split at h
   ·exact absurd h (by decide)
   ·rcases List.mem_cons.1 hx with rfl|hx
    ·exact Classical.not_not.1 k
    ·exact qi7 t _ h x hx
theorem qgK{x:Ob}(h:obE x=0):nmB x.nm=true/\pgE x.o x.hs=0:=by
 cases k:nmB x.nm
 ·rw [qwJ k] at h;exact absurd h (by decide)
 ·rw [qsl k] at h;exact ⟨rfl,h⟩
theorem qmn{w:Ws}(h:wsE w=0):vbB w.a w.b w.c w.d=true/\w.l.length<=32/\scE [] w.l=0:=by
 unfold wsE at h
 split at h
 ·exact absurd h (by decide)
 ·rename_i k
  split at h
  ·exact absurd h (by decide)
  ·exact ⟨by simpa using k,by omega,h⟩
def nmO(x:Ob):ByteArray×Int:=(x.nm,obE x)
theorem qxc{s:ByteArray}{l l':List Ob}(h:l.map Ob.nm=l'.map Ob.nm):l.any (isN s)=l'.any (isN s):=by
 have e: ∀l:List Ob,l.any (isN s)=(l.map Ob.nm).any (fun n=>decide (n=s)):=fun l=>by rw [List.any_map];rfl
 rw [e,e,h]
theorem qkT: ∀(l l' pre pre':List Ob),l.map nmO=l'.map nmO->pre.map Ob.nm=pre'.map Ob.nm->scE pre l=scE pre' l'
 | [],l',pre,pre',h,_=>by
  have:l'= [] :=by simpa using h.symm
  subst this;rfl
 |x::t,l',pre,pre',h,hp=>by
  match l' with
  | [] =>simp at h
  |x'::t'=>
   rw [List.map_cons,List.map_cons,List.cons.injEq] at h
   obtain ⟨h1,h2⟩:=h
   unfold nmO at h1
   rw [Prod.mk.injEq] at h1
   rw [scE,scE,h1.1,h1.2,qxc hp,qkT t t' (pre++ [x]) (pre'++ [x']) h2 (by rw [List.map_append,List.map_append,hp];simp [h1.1])]
theorem qow{α:Type}{g:α->Bool}{l l':List α}(h:l.map g=l'.map g):qef g l=qef g l':=by
 have e: ∀l:List α,l.findIdx? g=(l.map g).findIdx? id:=fun l=>by rw [List.findIdx?_map];rfl
 unfold qef
 rw [e,e,h]
theorem SzO.mono{n m:Nat}{x:Ob}(h:SzO n x)(hm:n<=m)(hb:m<1000000):SzO m x:=
 ⟨hb,fun p hp=>⟨(h.o p hp).1.mono hm,(h.o p hp).2⟩,fun l hl p hp=>⟨(h.h l hl p hp).1.mono hm,(h.h l hl p hp).2⟩,h.lo,h.lh,h.ll⟩
theorem SzW.mono{n m:Nat}{w:Ws}(h:SzW n w)(hm:n<=m)(hb:m<1000000):SzW m w:=⟨h.a,h.b,h.c,h.d,fun x hx=>(h.l x hx).mono hm hb⟩
end Go.Nv
end
