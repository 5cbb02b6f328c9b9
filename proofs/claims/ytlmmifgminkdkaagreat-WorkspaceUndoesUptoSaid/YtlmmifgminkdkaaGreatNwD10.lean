import Derived.Test.YtlmmifgminkdkaaGreatNwD9
import Derived.Test.YtlmmifgminkdkaaGreatNwD1
set_option linter.all false
set_option maxRecDepth 100000
section
namespace Go.Nv
open Go.Proofs Nw
structure qDK (w:Ws):Prop where
 n:w.l.length<=2199023255552
 l: ∀x∈w.l,qwN (pgO x)
abbrev CeT:=Int×Int×Int
abbrev ceD(x:CeT):D:= .a [i64 x.1,i64 x.2.1,i64 x.2.2]
theorem qzu(l:List CeT):Uni 3 (l.map ceD):=by
 intro x hx
 obtain ⟨p,_,rfl⟩:=List.mem_map.1 hx
 rfl
theorem qzF{l:List CeT}{i:Nat}(h:i<l.length):(l.map ceD)[(i:Int).toNat]? =some (ceD l[i]):=by simp [h]
abbrev sbD(b:List D)(a1 a2 a3 a4:List D):D:= .a (b++ [.l a1,.l a2,.l a3,.l a4])
def smS(sel:CeT->Bool)(ar:CeT->Rat)(l:List CeT):Rat:=l.foldl (fun a c=>if sel c=true then a+ar c else a) 0
theorem qjE(sel:CeT->Bool)(ar:CeT->Rat)(l:List CeT)(c:CeT):smS sel ar (l++ [c])=if sel c=true then smS sel ar l+ar c else smS sel ar l:=by
 unfold smS;rw [List.foldl_append];rfl
theorem qAX(ms:List Int)(n:Int):Fun Tryz.prog 134 [.l (ms.map i64),.p 0 [i64 n]] [.v (.bool (decide (n<=ms.length)))] :=by
 have e:(ms.map i64).length=ms.length:=by simp
 refine qac (fun t=>false) mixed tOk Tryz.func134 rfl rfl ?_
 conv=>whnf
 refine ⟨?_,trivial⟩
 conv=>whnf
 rw [qay,e]
theorem qo9(x0 y0 x1 y1:Rat)(a1 a2 a3 a4 l:List D):Fun Tryz.prog 185 [sbD (quD x0 y0 x1 y1).cells a1 a2 a3 a4,.l l] [.f 258 [.p 0 (sbD (quD x0 y0 x1 y1).cells a1 a2 a3 a4).cells,.p 0 [.l l]]] :=by
 refine qac (fun t=>false) mixed tOk Tryz.func185 rfl rfl ?_
 conv=>whnf
 refine ⟨?_,trivial⟩
 conv=>whnf
 rfl
noncomputable def qz6(x0 y0 x1 y1:Rat)(a1 a2 a3 a4 l:List D)(cs:List CeT)(n:Int)(q:Rat)(i:Nat):St:=
 ⟨fr 29 [(0,.own 2 0),(1,.d (.p 0 (sbD (quD x0 y0 x1 y1).cells a1 a2 a3 a4).cells)),(2,.d (.p 0 [.l l])),(9,.d (.l (cs.map ceD))),(10,.d (i64 (cs.map ceD).length)),(11,.d (i64 i))],
  [.box 23 [.d (.v (.bool false)),.d (.v (.string ⟨#[]⟩)),.d (.v (.string ⟨#[]⟩))],.box 23 [.d (.v (.bool (qfH q))),.d (.v (.string (qfI q))),.d (.v (.string (qf8 q)))],
  .loop .ready none #[15,16] (rfO Tryz.f133.body).1 (rfO Tryz.f133.body).2 (fr 35 [(3,.d (.p 0 (sbD (quD x0 y0 x1 y1).cells a1 a2 a3 a4).cells)),(5,.d (.p 0 [.f 134 [.p 0 [i64 n]]])),(6,.ptr 0 0 0),(7,.ptr 1 0 0)])]⟩
theorem qC6{x0 y0 x1 y1:Rat}{a1 a2 a3 a4 l:List D}{cs:List CeT}{n:Int}{cen:CeT->P2}{mem:CeT->List Int}{ar:CeT->Rat}(hl:cs.length<1000000)
  (hC:Fun Tryz.prog 259 [sbD (quD x0 y0 x1 y1).cells a1 a2 a3 a4] [.l (cs.map ceD)])
  (hcen: ∀c∈cs,Fun Tryz.prog 260 [sbD (quD x0 y0 x1 y1).cells a1 a2 a3 a4,ceD c] [pD (cen c),i64 0])
  (har: ∀c∈cs,Fun Tryz.prog 261 [.l l,pD (cen c)] [.l ((mem c).map i64)])
  (hA: ∀c∈cs,c.1=3->Fun Tryz.prog 186 [sbD (quD x0 y0 x1 y1).cells a1 a2 a3 a4,ceD c] [qar (ar c),i64 0])
  (qa: ∀c∈cs,Q (ar c)) (qs: ∀i,i<=cs.length->Q (smS (fun c=>decide (c.1=3)&&decide (n<=(mem c).length)) ar (cs.take i))):
  Fun Tryz.prog 133 [sbD (quD x0 y0 x1 y1).cells a1 a2 a3 a4,.l l,.f 134 [.p 0 [i64 n]]] [qar (smS (fun c=>decide (c.1=3)&&decide (n<=(mem c).length)) ar cs)] :=by
 have hll:(cs.map ceD).length=cs.length:=by simp
 generalize hsel:(fun c:CeT=>decide (c.1=3)&&decide (n<=((mem c).length:Int)))=sel at*
 refine qac (fun t=>t==6||t==7||t==8||t==10) mixed tOk Tryz.func133 rfl rfl ?_
 conv=>whnf
 refine qaa rfl rfl (qo9 x0 y0 x1 y1 a1 a2 a3 a4 l) ?_
 conv=>whnf
 refine qb6 (g:=258) (cap:= [.d (.p 0 (sbD (quD x0 y0 x1 y1).cells a1 a2 a3 a4).cells),.d (.p 0 [.l l])]) (fun t=>t==6||t==7||t==8||t==10) mixed tOk rfl rfl rfl rfl rfl ?_
 conv=>whnf
 refine qaa rfl rfl hC ?_
 conv=>whnf
 refine qcd (fun t=>t==5||t==6||t==7||t==8||t==10) (fun i:Nat=>qz6 x0 y0 x1 y1 a1 a2 a3 a4 l cs n (smS sel ar (cs.take i)) i) (fun i=>i<=cs.length) (fun i=>cs.length-i) 0 mixed tOk (by omega) ?_ ?_
 ·unfold qz6
  have e0:smS sel ar (cs.take 0)=0:=rfl
  simp only [e0,qdb,qde,qdf]
  refine qbG ?_ ?_<;>repeat' (first|exact trivial|exact rfl|apply And.intro)
 ·intro i hi
  conv=>whnf
  refine qaf (fun hlt=> ?_) (fun hge=> ?_)
  ·have hlt':i<cs.length:=by omega
   have hm:=List.getElem_mem hlt'
   conv=>whnf
   refine qae (ceD cs[i]) (qzF hlt') (by omega) (qzu cs) ?_
   conv=>whnf
   refine qaa rfl rfl (hcen _ hm) ?_
   conv=>whnf
   refine qdR 5 _ (fun t=>t==5||t==6||t==7||t==8||t==10) (.tmp 21) [.tmp 22,.tmp 25] mixed tOk rfl rfl ⟨_,rfl⟩ (by kernel_rfl) ?_
   conv=>whnf
   refine qab (har _ hm) ?_
   conv=>whnf
   refine qad (by kernel_rfl) ?_
   conv=>whnf
   refine qb9 (fun t=>t==5||t==6||t==7||t==8||t==10) mixed tOk rfl rfl rfl ?_
   conv=>whnf
   have hsc:sel cs[i] =(decide (cs[i].1=3)&&decide (n<=((mem cs[i]).length:Int))):=by rw [<-hsel]
   have hts:cs.take (i+1)=cs.take i++ [cs[i]] :=List.take_succ_eq_append_getElem hlt'
   refine qaU (fun hk=> ?_) (fun hk=> ?_)
   ·conv=>whnf
    refine qaa rfl rfl (qAX (mem cs[i]) n) ?_
    conv=>whnf
    refine qal (fun hn=> ?_) (fun hn=> ?_)
    ·have hs:smS sel ar (cs.take (i+1))=smS sel ar (cs.take i)+ar cs[i] :=by rw [hts,qjE,if_pos (by rw [hsc,decide_eq_true hk,hn];rfl)]
     conv=>whnf
     refine qaa rfl rfl (hA _ hm hk) ?_
     conv=>whnf
     refine qaa rfl rfl (qrd (qs i (by omega)) (qa _ hm)) ?_
     conv=>whnf
     refine qad (by kernel_rfl) ?_
     conv=>whnf
     refine qak (by omega) ?_
     conv=>whnf
     refine ⟨i+1,by omega,by omega, ?_⟩
     unfold qz6
     rw [hs,Int.natCast_succ]
     refine qaj 3 rfl (qaj 4 rfl (qaj 6 rfl (qaj 7 rfl ?_)))
     refine qbG ?_ ?_<;>repeat' (first|exact trivial|exact rfl|apply And.intro)
    ·have hs:smS sel ar (cs.take (i+1))=smS sel ar (cs.take i):=by rw [hts,qjE,if_neg (by rw [hsc,hn];simp)]
     conv=>whnf
     refine qad (by kernel_rfl) ?_
     conv=>whnf
     refine qak (by omega) ?_
     conv=>whnf
     refine ⟨i+1,by omega,by omega, ?_⟩
     unfold qz6
     rw [hs,Int.natCast_succ]
     refine qaj 3 rfl (qaj 4 rfl (qaj 6 rfl ?_))
     refine qbG ?_ ?_<;>repeat' (first|exact trivial|exact rfl|apply And.intro)
   ·have hs:smS sel ar (cs.take (i+1))=smS sel ar (cs.take i):=by rw [hts,qjE,if_neg (by rw [hsc,decide_eq_false hk];simp)]
    conv=>whnf
    refine qad (by kernel_rfl) ?_
    conv=>whnf
    refine qak (by omega) ?_
    conv=>whnf
    refine ⟨i+1,by omega,by omega, ?_⟩
    unfold qz6
    rw [hs,Int.natCast_succ]
    refine qaj 3 rfl (qaj 4 rfl (qaj 6 rfl ?_))
    refine qbG ?_ ?_<;>repeat' (first|exact trivial|exact rfl|apply And.intro)
  ·have:i=cs.length:=by omega
   subst this
   rw [List.take_length]
   conv=>whnf
   refine ⟨?_,trivial⟩
   conv=>whnf
   exact ⟨rfl,rfl,rfl,trivial⟩
end Go.Nv
end
