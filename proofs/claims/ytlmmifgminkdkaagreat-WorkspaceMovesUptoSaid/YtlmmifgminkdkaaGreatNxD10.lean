import Derived.Test.YtlmmifgminkdkaaGreatNxD9
import Derived.Test.YtlmmifgminkdkaaGreatNxD1
set_option linter.all false
set_option maxRecDepth 100000
section
namespace Go.Nv
open Go.Proofs Nw
theorem qo9(v:P2)(x:Ob):(mvO v x).nm=x.nm:=rfl
theorem qx6{x:Ob}{v:P2}(h:obE x=0)(k:pgE (mvO v x).o (mvO v x).hs=0):obE (mvO v x)=0:=by
 obtain ⟨h1,h2⟩:=qgK h
 rw [qsl (by rw [qo9];exact h1),k]
theorem qEU{r:RD}{n:Nat}(h1:r.num.size<=n)(h2:r.den.size<=n):Bd n r.val:=by
 have hb: ∀s:ByteArray,s.size<=n->bv s<=256^n:=fun s h=>Nat.le_trans (Nat.le_of_lt (qaV _)) (Nat.pow_le_pow_right (by omega) h)
 refine qgL (qhb _) ?_ ?_
 ·show (sg r.neg (bv r.num)).natAbs<=_
  rw [qdU];exact hb _ h1
 ·have:=hb _ h2
  have:0<256^n:=Nat.pow_pos (by omega)
  unfold dv
  split<;>omega
structure qE4 (w:Ws):Prop where
 n:w.l.length<=2199023255552
 l: ∀x∈w.l,qzy (pgO x)
abbrev CeT:=Int×Int×Int
abbrev ceD(x:CeT):D:= .a [i64 x.1,i64 x.2.1,i64 x.2.2]
theorem qAC(l:List CeT):Uni 3 (l.map ceD):=by
 intro x hx
 obtain ⟨p,_,rfl⟩:=List.mem_map.1 hx
 rfl
theorem qAq{l:List CeT}{i:Nat}(h:i<l.length):(l.map ceD)[(i:Int).toNat]? =some (ceD l[i]):=by simp [h]
abbrev sbD(b:List D)(a1 a2 a3 a4:List D):D:= .a (b++ [.l a1,.l a2,.l a3,.l a4])
def smS(sel:CeT->Bool)(ar:CeT->Rat)(l:List CeT):Rat:=l.foldl (fun a c=>if sel c=true then a+ar c else a) 0
theorem qjb(sel:CeT->Bool)(ar:CeT->Rat)(l:List CeT)(c:CeT):smS sel ar (l++ [c])=if sel c=true then smS sel ar l+ar c else smS sel ar l:=by
 unfold smS;rw [List.foldl_append];rfl
theorem qCH(ms:List Int)(n:Int):Fun Tryz.prog 134 [.l (ms.map i64),.p 0 [i64 n]] [.v (.bool (decide (n<=ms.length)))] :=by
 have e:(ms.map i64).length=ms.length:=by simp
 refine qad (fun t=>false) mixed tOk Tryz.func134 rfl rfl ?_
 conv=>whnf
 refine ⟨?_,trivial⟩
 conv=>whnf
 rw [qaH,e]
theorem qqC(x0 y0 x1 y1:Rat)(a1 a2 a3 a4 l:List D):Fun Tryz.prog 185 [sbD (quD x0 y0 x1 y1).cells a1 a2 a3 a4,.l l] [.f 258 [.p 0 (sbD (quD x0 y0 x1 y1).cells a1 a2 a3 a4).cells,.p 0 [.l l]]] :=by
 refine qad (fun t=>false) mixed tOk Tryz.func185 rfl rfl ?_
 conv=>whnf
 refine ⟨?_,trivial⟩
 conv=>whnf
 rfl
noncomputable def qAZ(x0 y0 x1 y1:Rat)(a1 a2 a3 a4 l:List D)(cs:List CeT)(n:Int)(q:Rat)(i:Nat):St:=
 ⟨fr 29 [(0,.own 2 0),(1,.d (.p 0 (sbD (quD x0 y0 x1 y1).cells a1 a2 a3 a4).cells)),(2,.d (.p 0 [.l l])),(9,.d (.l (cs.map ceD))),(10,.d (i64 (cs.map ceD).length)),(11,.d (i64 i))],
  [.box 23 [.d (.v (.bool false)),.d (.v (.string ⟨#[]⟩)),.d (.v (.string ⟨#[]⟩))],.box 23 [.d (.v (.bool (qel q))),.d (.v (.string (qeC q))),.d (.v (.string (qeB q)))],
  .loop .ready none #[15,16] (rfO Tryz.f133.body).1 (rfO Tryz.f133.body).2 (fr 35 [(3,.d (.p 0 (sbD (quD x0 y0 x1 y1).cells a1 a2 a3 a4).cells)),(5,.d (.p 0 [.f 134 [.p 0 [i64 n]]])),(6,.ptr 0 0 0),(7,.ptr 1 0 0)])]⟩
theorem qCI{x0 y0 x1 y1:Rat}{a1 a2 a3 a4 l:List D}{cs:List CeT}{n:Int}{cen:CeT->P2}{mem:CeT->List Int}{ar:CeT->Rat}(hl:cs.length<1000000)
  (hC:Fun Tryz.prog 259 [sbD (quD x0 y0 x1 y1).cells a1 a2 a3 a4] [.l (cs.map ceD)])
  (hcen: ∀c∈cs,Fun Tryz.prog 260 [sbD (quD x0 y0 x1 y1).cells a1 a2 a3 a4,ceD c] [pD (cen c),i64 0])
  (har: ∀c∈cs,Fun Tryz.prog 261 [.l l,pD (cen c)] [.l ((mem c).map i64)])
  (hA: ∀c∈cs,c.1=3->Fun Tryz.prog 186 [sbD (quD x0 y0 x1 y1).cells a1 a2 a3 a4,ceD c] [qas (ar c),i64 0])
  (qa: ∀c∈cs,Q (ar c)) (qs: ∀i,i<=cs.length->Q (smS (fun c=>decide (c.1=3)&&decide (n<=(mem c).length)) ar (cs.take i))):
  Fun Tryz.prog 133 [sbD (quD x0 y0 x1 y1).cells a1 a2 a3 a4,.l l,.f 134 [.p 0 [i64 n]]] [qas (smS (fun c=>decide (c.1=3)&&decide (n<=(mem c).length)) ar cs)] :=by
 have hll:(cs.map ceD).length=cs.length:=by simp
 generalize hsel:(fun c:CeT=>decide (c.1=3)&&decide (n<=((mem c).length:Int)))=sel at*
 refine qad (fun t=>t==6||t==7||t==8||t==10) mixed tOk Tryz.func133 rfl rfl ?_
 conv=>whnf
 refine qaa rfl rfl (qqC x0 y0 x1 y1 a1 a2 a3 a4 l) ?_
 conv=>whnf
 refine qbV (g:=258) (cap:= [.d (.p 0 (sbD (quD x0 y0 x1 y1).cells a1 a2 a3 a4).cells),.d (.p 0 [.l l])]) (fun t=>t==6||t==7||t==8||t==10) mixed tOk rfl rfl rfl rfl rfl ?_
 conv=>whnf
 refine qaa rfl rfl hC ?_
 conv=>whnf
 refine qbX (fun t=>t==5||t==6||t==7||t==8||t==10) (fun i:Nat=>qAZ x0 y0 x1 y1 a1 a2 a3 a4 l cs n (smS sel ar (cs.take i)) i) (fun i=>i<=cs.length) (fun i=>cs.length-i) 0 mixed tOk (by omega) ?_ ?_
 ·unfold qAZ
  have e0:smS sel ar (cs.take 0)=0:=rfl
  simp only [e0,qdn,qdp,qds]
  refine qbD ?_ ?_<;>repeat' (first|exact trivial|exact rfl|apply And.intro)
 ·intro i hi
  conv=>whnf
  refine qaf (fun hlt=> ?_) (fun hge=> ?_)
  ·have hlt':i<cs.length:=by omega
   have hm:=List.getElem_mem hlt'
   conv=>whnf
   refine qae (ceD cs[i]) (qAq hlt') (by omega) (qAC cs) ?_
   conv=>whnf
   refine qaa rfl rfl (hcen _ hm) ?_
   conv=>whnf
   refine qd6 5 _ (fun t=>t==5||t==6||t==7||t==8||t==10) (.tmp 21) [.tmp 22,.tmp 25] mixed tOk rfl rfl ⟨_,rfl⟩ (by kernel_rfl) ?_
   conv=>whnf
   refine qab (har _ hm) ?_
   conv=>whnf
   refine qac (by kernel_rfl) ?_
   conv=>whnf
   refine qbI (fun t=>t==5||t==6||t==7||t==8||t==10) mixed tOk rfl rfl rfl ?_
   conv=>whnf
   have hsc:sel cs[i] =(decide (cs[i].1=3)&&decide (n<=((mem cs[i]).length:Int))):=by rw [<-hsel]
   have hts:cs.take (i+1)=cs.take i++ [cs[i]] :=List.take_succ_eq_append_getElem hlt'
   refine qa9 (fun hk=> ?_) (fun hk=> ?_)
   ·conv=>whnf
    refine qaa rfl rfl (qCH (mem cs[i]) n) ?_
    conv=>whnf
    refine qal (fun hn=> ?_) (fun hn=> ?_)
    ·have hs:smS sel ar (cs.take (i+1))=smS sel ar (cs.take i)+ar cs[i] :=by rw [hts,qjb,if_pos (by rw [hsc,decide_eq_true hk,hn];rfl)]
     conv=>whnf
     refine qaa rfl rfl (hA _ hm hk) ?_
     conv=>whnf
     refine qaa rfl rfl (qrV (qs i (by omega)) (qa _ hm)) ?_
     conv=>whnf
     refine qac (by kernel_rfl) ?_
     conv=>whnf
     refine qak (by omega) ?_
     conv=>whnf
     refine ⟨i+1,by omega,by omega, ?_⟩
     unfold qAZ
     rw [hs,Int.natCast_succ]
     refine qaj 3 rfl (qaj 4 rfl (qaj 6 rfl (qaj 7 rfl ?_)))
     refine qbD ?_ ?_<;>repeat' (first|exact trivial|exact rfl|apply And.intro)
    ·have hs:smS sel ar (cs.take (i+1))=smS sel ar (cs.take i):=by rw [hts,qjb,if_neg (by rw [hsc,hn];simp)]
     conv=>whnf
     refine qac (by kernel_rfl) ?_
     conv=>whnf
     refine qak (by omega) ?_
     conv=>whnf
     refine ⟨i+1,by omega,by omega, ?_⟩
     unfold qAZ
     rw [hs,Int.natCast_succ]
     refine qaj 3 rfl (qaj 4 rfl (qaj 6 rfl ?_))
     refine qbD ?_ ?_<;>repeat' (first|exact trivial|exact rfl|apply And.intro)
   ·have hs:smS sel ar (cs.take (i+1))=smS sel ar (cs.take i):=by rw [hts,qjb,if_neg (by rw [hsc,decide_eq_false hk];simp)]
    conv=>whnf
    refine qac (by kernel_rfl) ?_
    conv=>whnf
    refine qak (by omega) ?_
    conv=>whnf
    refine ⟨i+1,by omega,by omega, ?_⟩
    unfold qAZ
    rw [hs,Int.natCast_succ]
    refine qaj 3 rfl (qaj 4 rfl (qaj 6 rfl ?_))
    refine qbD ?_ ?_<;>repeat' (first|exact trivial|exact rfl|apply And.intro)
  ·have:i=cs.length:=by omega
   subst this
   rw [List.take_length]
   conv=>whnf
   refine ⟨?_,trivial⟩
   conv=>whnf
   exact ⟨rfl,rfl,rfl,trivial⟩
end Go.Nv
end
