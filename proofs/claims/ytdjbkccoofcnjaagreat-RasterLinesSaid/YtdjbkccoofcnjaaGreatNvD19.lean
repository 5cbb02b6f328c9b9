import Derived.Test.YtdjbkccoofcnjaaGreatNvD16
import Derived.Test.YtdjbkccoofcnjaaGreatNvC46
import Derived.Test.YtdjbkccoofcnjaaGreatNvD17
import Derived.Test.YtdjbkccoofcnjaaGreatNvD18
set_option linter.all false
set_option maxRecDepth 100000
section
namespace Go.Nv
open Go.Proofs Nw Go.RowKit Go.ChangeAt Go.WideShapes Go.ChangeShapes
section
variable {H:Type} {enc:TypeId×Value→H} {P:Program} {w:World} {base:Nat} {spare:Nat→Bool} {held:Bool} {fuel:Nat} {t:TypeId} {cs:List Value} {x:DataW H×List MemPlace}
structure DenC (W:World) (ds:List D) (us:List Value):Prop where
 den: ∀ok:Nat→Prop,(∀b,ok b)→DenL W ok ds us
 one: ∀u∈us,u.oneCell'=true
theorem DenC.append{W:World}{a b:List D}{us vs:List Value}(h:DenC W a us)(k:DenC W b vs):DenC W (a++b) (us++vs):=
 ⟨fun ok ho=>(h.den ok ho).append (k.den ok ho),fun u hu=>(List.mem_append.1 hu).elim (h.one u) (k.one u)⟩
theorem choose_list{α:Type}{Q:Nat→α→Prop}: ∀(n:Nat),(∀i,i<n→ ∃y,Q i y)→ ∃l:List α,l.length=n∧ ∀i (h:i<l.length),Q i l[i]
 |0,_=>⟨[],rfl,fun i h=>by simp at h⟩
 |n+1,h=>by
  obtain ⟨l,h1,h2⟩:=choose_list n (fun i hi=>h i (by omega))
  obtain ⟨y,hy⟩:=h n (by omega)
  refine ⟨l++ [y],by simp [h1],fun i hi=> ?_⟩
  by_cases hl:i<l.length
  ·rw [List.getElem_append_left hl];exact h2 i hl
  ·have:i=l.length:=by simp at hi;omega
   subst this
   rw [List.getElem_append_right (by omega)]
   simp [h1,hy]
theorem flat_map_den{α:Type}{W:World}(f:α→D){size:Nat}(hf: ∀y,(f y).cells.length=size){b:Nat}: ∀(l:List (α×List Value)) (off:Nat),(∀i (h:i<l.length),DenC W (f l[i].1).cells l[i].2∧l[i].2.length=size∧ ∀r,r<size→W.cell? ⟨b,off+i*size+r,none⟩=l[i].2[r]?)→
  DenC W (flat (l.map fun p=>f p.1)) (l.flatMap (·.2))∧ ∀(j:Nat) (u:Value),(l.flatMap (·.2))[j]? =some u→W.cell? ⟨b,off+j,none⟩=some u
 | [],off,_=>⟨⟨fun ok _=>DenL.nil _ _,fun u hu=>by simp at hu⟩,fun j u h=>by simp at h⟩
 |p::l,off,h=>by
  obtain ⟨a1,a2,a3⟩:=h 0 (by simp)
  obtain ⟨b1,b2⟩:=flat_map_den f hf (b:=b) l (off+size) (fun i hi=>by
   have:=h (i+1) (by simpa using hi)
   simp only [List.getElem_cons_succ] at this
   refine ⟨this.1,this.2.1,fun r hr=> ?_⟩
   rw [←this.2.2 r hr]
   congr 2
   rw [Nat.add_mul];omega)
  simp only [List.getElem_cons_zero] at a1 a2 a3
  refine ⟨?_,fun j u hj=> ?_⟩
  ·simp only [List.map_cons,List.flatMap_cons]
   exact a1.append b1
  ·simp only [List.flatMap_cons] at hj
   by_cases hl:j<size
   ·rw [List.getElem?_append_left (by omega)] at hj
    have:=a3 j hl
    rw [hj] at this
    simpa using this
   ·rw [List.getElem?_append_right (by omega)] at hj
    have:=b2 _ _ hj
    rw [a2] at this
    rw [←this]
    congr 2
    omega
theorem slice_den{e:TypeId}{size:Nat}(ht:P.underlying t=some (.slice e))(hc:P.cellsOf e=size)(h0:0<size){α:Type}(f:α→D)(hf: ∀y,(f y).cells.length=size)
  (elem: ∀(n:Nat) (cs:List Value) (x:DataW H×List MemPlace),DataW.trod enc P w base spare held n e cs=some x→ ∃y,DenC w (f y).cells cs)
  (h:DataW.trod enc P w base spare held fuel t cs=some x): ∃l:List α,DenC w [.l (l.map f)] cs:=by
 have single: ∀{d:D} {v:Value},(∀ok:Nat→Prop,(∀b,ok b)→Den w ok d v)→v.oneCell'=true→DenC w [d] [v] :=fun h1 h2=>
  ⟨fun ok ho=> .cons (h1 ok ho) (.nil _ _),fun u hu=>by rw [List.mem_singleton.1 hu];exact h2⟩
 rcases DataW.trod_slice ht h with ⟨rfl,_⟩|⟨a,len,cap,elems,rest,n,rfl,rfl,_,_,hlc,hcap,hel,hget,_,_⟩
 ·exact ⟨[],single (fun ok _=> .l0 (by simp) fun _=>rfl) rfl⟩
 ·have each: ∀i,i<len→ ∃p:α×List Value,DenC w (f p.1).cells p.2∧p.2.length=size∧ ∀r,r<size→w.cell? ((a.add (i*size)).add r)=p.2[r]? :=by
   intro i hi
   have hi':=hget i hi
   rw [List.getElem?_eq_getElem (by omega),Option.bind_eq_some_iff] at hi'
   obtain ⟨us,h1,h2⟩:=hi'
   rw [hc] at h1
   obtain ⟨_,l1,c1⟩:=World.cells?_some h1
   obtain ⟨y,hy⟩:=elem _ _ _ h2
   exact ⟨(y,us),hy,l1,c1⟩
  obtain ⟨l,hl,hq⟩:=choose_list len each
  cases hlen:len with
  |zero=>
   refine ⟨[],single (fun ok _=> .l0 hcap fun e=>by cases e) rfl⟩
  |succ k=>
   have hsp:a=⟨a.block,a.off,none⟩:=by
    obtain ⟨q1,q2,q3⟩:=hq 0 (by omega)
    have:=q3 0 h0
    rw [List.getElem?_eq_getElem (by omega)] at this
    simp only [Nat.zero_mul,Addr.add,if_true] at this
    unfold World.cell? at this
    split at this
    ·split at this
     ·cases this
     ·rename_i hs
      obtain ⟨b,o,s⟩:=a
      cases s with
      |none=>rfl
      |some s=>simp at hs
    ·cases this
   have main:=flat_map_den f hf (b:=a.block) l a.off (fun i hi=>by
    obtain ⟨q1,q2,q3⟩:=hq i hi
    refine ⟨q1,q2,fun r hr=> ?_⟩
    rw [←q3 r hr]
    congr 1
    rw [hsp]
    unfold Addr.add
    by_cases h1:i*size=0
    ·rw [if_pos h1,h1]
     by_cases h2:r=0
     ·rw [if_pos h2,h2];rfl
     ·rw [if_neg h2];rfl
    ·rw [if_neg h1]
     by_cases h2:r=0
     ·rw [if_pos h2,h2];rfl
     ·rw [if_neg h2])
   refine ⟨l.map (·.1), ?_⟩
   have hxs:(l.map (·.1)).map f=l.map fun p=>f p.1:=by rw [List.map_map];rfl
   rw [hxs]
   have hlm:(l.map fun p=>f p.1).length=len:=by rw [List.length_map,hl]
   have hdl:=main.1.den (fun _=>True) (fun _=>trivial)
   have e1:Value.slice (some a) (k+1) cap= .slice (some ⟨a.block,a.off,none⟩) (l.map fun p=>f p.1).length cap:=by rw [←hsp,hlm,hlen]
   rw [e1]
   refine single (fun ok ho=> ?_) rfl
   refine .l (us:=l.flatMap (·.2)) ?_ hdl.1 (ho _) main.2 (main.1.den ok ho).2 (fun i u hu=>main.1.one u (List.mem_of_getElem? hu)) (by omega) hcap
   intro hnil
   have hz:=hq 0 (by omega)
   have:l[0].2= [] :=by
    have h2: ∀p∈l,p.2= [] :=by simpa using hnil
    exact h2 _ (List.getElem_mem _)
   rw [this] at hz
   have:=hz.2.1
   simp at this;omega
end
end Go.Nv
end
section
namespace Go.Nv
open Go.Proofs Nw Go.RowKit Go.ChangeAt Go.WideShapes Go.ChangeShapes
section
variable {H:Type} {enc:TypeId×Value→H} {w:World} {base:Nat} {spare:Nat→Bool} {held:Bool} {fuel:Nat} {cs:List Value} {x:DataW H×List MemPlace}
theorem field_some{t:TypeId}{fs:Array Field}(ht:Tryz.prog.underlying t=some (.struct fs))(h:DataW.trod enc Tryz.prog w base spare held fuel t cs=some x):
  cs.length=Tryz.prog.cellsOf t∧ ∀(i:Nat) (f:Field),fs[i]? =some f→ ∃n y,DataW.trod enc Tryz.prog w base spare held n f.type ((cs.drop f.offset).take (Tryz.prog.cellsOf f.type))=some y:=by
 obtain ⟨xs,n,_,_,h1,h2,h3⟩:=DataW.trod_struct ht h
 refine ⟨h1,fun i f hf=> ?_⟩
 have hi:i<fs.size:=(Array.getElem?_eq_some_iff.1 hf).1
 have:=h3 i f hf
 rw [List.getElem?_eq_getElem (by omega)] at this
 exact ⟨n,_,this⟩
theorem scal_c{W:World}{v:Value}(h:scal v=true)(h1:v.oneCell'=true):DenC W [.v v] [v] :=
 ⟨fun ok _=> .cons (.v h) (.nil _ _),fun u hu=>by rw [List.mem_singleton.1 hu];exact h1⟩
theorem rat_cells(h:DataW.trod enc Tryz.prog w base spare held fuel 27 cs=some x): ∃r:RD,DenC w [.v (.bool r.neg),.v (.string r.num),.v (.string r.den)] cs:=by
 obtain ⟨hl,hf⟩:=field_some Tryz.underlying27 h
 have hl:cs.length=3:=hl.trans (by kernel_rfl)
 obtain ⟨n0,y0,f0⟩:=hf 0 _ rfl
 obtain ⟨n1,y1,f1⟩:=hf 1 _ rfl
 obtain ⟨n2,y2,f2⟩:=hf 2 _ rfl
 have f0:DataW.trod enc Tryz.prog w base spare held n0 4 ((cs.drop 0).take (Tryz.prog.cellsOf 4))=some y0:=f0
 have f1:DataW.trod enc Tryz.prog w base spare held n1 9 ((cs.drop 1).take (Tryz.prog.cellsOf 9))=some y1:=f1
 have f2:DataW.trod enc Tryz.prog w base spare held n2 9 ((cs.drop 2).take (Tryz.prog.cellsOf 9))=some y2:=f2
 rw [show Tryz.prog.cellsOf 4=1 by kernel_rfl] at f0
 rw [show Tryz.prog.cellsOf 9=1 by kernel_rfl] at f1 f2
 match cs,hl with
 | [a,b,c],_=>
  obtain ⟨u,hu,_⟩:=DataW.trod_bool Tryz.underlying4 f0
  obtain ⟨s,hs,_⟩:=DataW.trod_string Tryz.underlying9 f1
  obtain ⟨t,ht,_⟩:=DataW.trod_string Tryz.underlying9 f2
  simp at hu hs ht
  subst hu;subst hs;subst ht
  refine ⟨⟨u,s,t⟩, ?_⟩
  exact ((scal_c rfl rfl).append ((scal_c rfl rfl).append (scal_c rfl rfl)):DenC w ([.v (.bool u)] ++([.v (.string s)] ++ [.v (.string t)])) ([.bool u] ++([.string s] ++ [.string t])))
theorem pt_cells(h:DataW.trod enc Tryz.prog w base spare held fuel 29 cs=some x): ∃p:RD×RD,DenC w (pR p).cells cs:=by
 obtain ⟨hl,hf⟩:=field_some Tryz.underlying29 h
 have hl:cs.length=6:=hl.trans (by kernel_rfl)
 obtain ⟨n0,y0,f0⟩:=hf 0 _ rfl
 obtain ⟨n1,y1,f1⟩:=hf 1 _ rfl
 have f0:DataW.trod enc Tryz.prog w base spare held n0 27 ((cs.drop 0).take (Tryz.prog.cellsOf 27))=some y0:=f0
 have f1:DataW.trod enc Tryz.prog w base spare held n1 27 ((cs.drop 3).take (Tryz.prog.cellsOf 27))=some y1:=f1
 rw [show Tryz.prog.cellsOf 27=3 by kernel_rfl] at f0 f1
 obtain ⟨r,hr⟩:=rat_cells f0
 obtain ⟨s,hs⟩:=rat_cells f1
 refine ⟨(r,s), ?_⟩
 have:=hr.append hs
 rw [show (cs.drop 0).take 3++(cs.drop 3).take 3=cs by
  match cs,hl with
  | [a,b,c,d,e,f],_=>rfl] at this
 exact this
theorem pts_cells(h:DataW.trod enc Tryz.prog w base spare held fuel 22 cs=some x): ∃l:List (RD×RD),DenC w [.l (rL l)] cs:=
 slice_den Tryz.underlying22 (size:=6) (by kernel_rfl) (by omega) pR (fun _=>rfl) (fun _ _ _ hh=>pt_cells hh) h
theorem rings_cells(h:DataW.trod enc Tryz.prog w base spare held fuel 23 cs=some x): ∃l:List (List (RD×RD)),DenC w [.l (hR l)] cs:=
 slice_den Tryz.underlying23 (size:=1) (by kernel_rfl) (by omega) (fun l=>D.l (rL l)) (fun _=>rfl) (fun _ _ _ hh=>pts_cells hh) h
theorem pg_cells(h:DataW.trod enc Tryz.prog w base spare held fuel 25 cs=some x): ∃o hs,DenC w [.l (rL o),.l (hR hs)] cs:=by
 obtain ⟨hl,hf⟩:=field_some Tryz.underlying25 h
 have hl:cs.length=2:=hl.trans (by kernel_rfl)
 obtain ⟨n0,y0,f0⟩:=hf 0 _ rfl
 obtain ⟨n1,y1,f1⟩:=hf 1 _ rfl
 have f0:DataW.trod enc Tryz.prog w base spare held n0 22 ((cs.drop 0).take (Tryz.prog.cellsOf 22))=some y0:=f0
 have f1:DataW.trod enc Tryz.prog w base spare held n1 23 ((cs.drop 1).take (Tryz.prog.cellsOf 23))=some y1:=f1
 rw [show Tryz.prog.cellsOf 22=1 by kernel_rfl] at f0
 rw [show Tryz.prog.cellsOf 23=1 by kernel_rfl] at f1
 obtain ⟨r,hr⟩:=pts_cells f0
 obtain ⟨s,hs⟩:=rings_cells f1
 refine ⟨r,s, ?_⟩
 have:=hr.append hs
 rw [show (cs.drop 0).take 1++(cs.drop 1).take 1=cs by
  match cs,hl with
  | [a,b],_=>rfl] at this
 exact this
theorem agg_den{ds:List D}{v:Value}(ha: ∃us,v= .agg us)(h:DenC w ds v.cells.toList):Den w (fun _=>True) (.a ds) v:=by
 obtain ⟨us,rfl⟩:=ha
 have hd:=h.den (fun _=>True) (fun _=>trivial)
 have e:(Value.agg us).cells.toList=us.toList:=rfl
 rw [e] at hd
 have:=Den.a (W:=w) (ok:=fun _=>True) hd.1 hd.2 (fun i u hu=>h.one u (by rw [e];exact List.mem_of_getElem? hu))
 simpa using this
end
end Go.Nv
end
section
namespace Go.Nv
open Go.Proofs Nw Go.RowKit Go.ChangeAt Go.WideShapes Go.ChangeShapes
theorem poly_den{H:Type}{enc:TypeId×Value→H}{W:World}{b0 base:Nat}{spare:Nat→Bool}{held:Bool}{v:Value}{d:DataW H}{ps:List MemPlace}(hv:Value.okWide Tryz.prog W .any b0 25 v)(h:DataW.Trod enc Tryz.prog W base spare held 25 v d ps):
  ∃o hs,Den W (fun _=>True) (pgR o hs) v:=by
 obtain ⟨fuel,h⟩:=h
 obtain ⟨o,hs,hc⟩:=pg_cells h
 refine ⟨o,hs,agg_den ?_ hc⟩
 unfold Value.okWide at hv
 rw [Tryz.underlying25] at hv
 obtain ⟨cs,rfl,_⟩:=hv
 exact ⟨_,rfl⟩
end Go.Nv
end
section
namespace Go.Nv
open Go.Proofs Nw Go.RowKit Go.ChangeAt Go.WideShapes Go.ChangeShapes
open Go.Proofs.YtdjbkccoofcnjaaGreat
section
variable {H:Type} {enc:TypeId×Value→H} {P:Program} {w:World} {base:Nat} {spare:Nat→Bool} {held:Bool}
end
end Go.Nv
end
section
namespace Go.Nv
open Go.Proofs Nw Go.RowKit Go.ChangeAt Go.WideShapes Go.ChangeShapes
open Go.Proofs.YtdjbkccoofcnjaaGreat
section
variable {H:Type} {enc:TypeId×Value→H} {P:Program} {w:World} {base:Nat} {spare:Nat→Bool} {held:Bool} {fuel:Nat} {t:TypeId} {cs:List Value} {x:DataW H×List MemPlace}
theorem slice_den2{e:TypeId}{size:Nat}(ht:P.underlying t=some (.slice e))(hc:P.cellsOf e=size)(h0:0<size){α:Type}(f:α→D)(hf: ∀y,(f y).cells.length=size)(R:DataW H→α→Prop)
  (elem: ∀(n:Nat) (cs:List Value) (x:DataW H×List MemPlace),DataW.trod enc P w base spare held n e cs=some x→ ∃y,DenC w (f y).cells cs∧R x.1 y)
  (h:DataW.trod enc P w base spare held fuel t cs=some x): ∃l:List α,DenC w [.l (l.map f)] cs∧(l= [] ∨ ∃es rs,x.1= .slice es rs∧ ∀y∈l,∃d∈es,R d y):=by
 have single: ∀{d:D} {v:Value},(∀ok:Nat→Prop,(∀b,ok b)→Den w ok d v)→v.oneCell'=true→DenC w [d] [v] :=fun h1 h2=>
  ⟨fun ok ho=> .cons (h1 ok ho) (.nil _ _),fun u hu=>by rw [List.mem_singleton.1 hu];exact h2⟩
 rcases DataW.trod_slice ht h with ⟨rfl,_⟩|⟨a,len,cap,elems,rest,n,rfl,rfl,hx,_,hlc,hcap,hel,hget,_,_⟩
 ·exact ⟨[],single (fun ok _=> .l0 (by simp) fun _=>rfl) rfl,.inl rfl⟩
 ·have each: ∀i,i<len→ ∃p:α×List Value,DenC w (f p.1).cells p.2∧p.2.length=size∧(∀r,r<size→w.cell? ((a.add (i*size)).add r)=p.2[r]?)∧ ∃d∈elems.map (·.1),R d p.1:=by
   intro i hi
   have hi':=hget i hi
   rw [List.getElem?_eq_getElem (by omega),Option.bind_eq_some_iff] at hi'
   obtain ⟨us,h1,h2⟩:=hi'
   rw [hc] at h1
   obtain ⟨_,l1,c1⟩:=World.cells?_some h1
   obtain ⟨y,hy,hr⟩:=elem _ _ _ h2
   exact ⟨(y,us),hy,l1,c1,_,List.mem_map.2 ⟨_,List.getElem_mem _,rfl⟩,hr⟩
  obtain ⟨l,hl,hq⟩:=choose_list len each
  cases hlen:len with
  |zero=>
   refine ⟨[],single (fun ok _=> .l0 hcap fun e=>by cases e) rfl,.inl rfl⟩
  |succ k=>
   have hsp:a=⟨a.block,a.off,none⟩:=by
    obtain ⟨q1,q2,q3,_⟩:=hq 0 (by omega)
    have:=q3 0 h0
    rw [List.getElem?_eq_getElem (by omega)] at this
    simp only [Nat.zero_mul,Addr.add,if_true] at this
    unfold World.cell? at this
    split at this
    ·split at this
     ·cases this
     ·rename_i hs
      obtain ⟨b,o,s⟩:=a
      cases s with
      |none=>rfl
      |some s=>simp at hs
    ·cases this
   have main:=flat_map_den f hf (b:=a.block) l a.off (fun i hi=>by
    obtain ⟨q1,q2,q3,_⟩:=hq i hi
    refine ⟨q1,q2,fun r hr=> ?_⟩
    rw [←q3 r hr]
    congr 1
    rw [hsp]
    unfold Addr.add
    by_cases h1:i*size=0
    ·rw [if_pos h1,h1]
     by_cases h2:r=0
     ·rw [if_pos h2,h2];rfl
     ·rw [if_neg h2];rfl
    ·rw [if_neg h1]
     by_cases h2:r=0
     ·rw [if_pos h2,h2];rfl
     ·rw [if_neg h2])
   refine ⟨l.map (·.1), ?_,.inr ⟨elems.map (·.1),rest.map (·.1),by rw [hx],fun y hy=> ?_⟩⟩
   ·have hxs:(l.map (·.1)).map f=l.map fun p=>f p.1:=by rw [List.map_map];rfl
    rw [hxs]
    have hlm:(l.map fun p=>f p.1).length=len:=by rw [List.length_map,hl]
    have hdl:=main.1.den (fun _=>True) (fun _=>trivial)
    have e1:Value.slice (some a) (k+1) cap= .slice (some ⟨a.block,a.off,none⟩) (l.map fun p=>f p.1).length cap:=by rw [←hsp,hlm,hlen]
    rw [e1]
    refine single (fun ok ho=> ?_) rfl
    refine .l (us:=l.flatMap (·.2)) ?_ hdl.1 (ho _) main.2 (main.1.den ok ho).2 (fun i u hu=>main.1.one u (List.mem_of_getElem? hu)) (by omega) hcap
    intro hnil
    have hz:=hq 0 (by omega)
    have:l[0].2= [] :=by
     have h2: ∀p∈l,p.2= [] :=by simpa using hnil
     exact h2 _ (List.getElem_mem _)
    rw [this] at hz
    have:=hz.2.1
    simp at this;omega
   ·obtain ⟨p,hp,rfl⟩:=List.mem_map.1 hy
    obtain ⟨i,hi,rfl⟩:=List.getElem_of_mem hp
    exact (hq i hi).2.2.2
end
section
variable {H:Type} {enc:TypeId×Value→H} {w:World} {base:Nat} {spare:Nat→Bool} {held:Bool} {fuel:Nat} {cs:List Value} {x:DataW H×List MemPlace}
theorem rat_cells2(h:DataW.trod enc Tryz.prog w base spare held fuel 27 cs=some x): ∃r:RD,DenC w [.v (.bool r.neg),.v (.string r.num),.v (.string r.den)] cs∧r.num.size∈DataW.weights Tryz.prog 27 x.1∧r.den.size∈DataW.weights Tryz.prog 27 x.1:=by
 obtain ⟨xs,n,_,hx,hl,h2,h3⟩:=DataW.trod_struct Tryz.underlying27 h
 have hl:cs.length=3:=hl.trans (by kernel_rfl)
 have h2:xs.length=3:=h2
 match xs,h2 with
 | [x0,x1,x2],_=>
 have f0:DataW.trod enc Tryz.prog w base spare held n 4 ((cs.drop 0).take (Tryz.prog.cellsOf 4))=some x0:=h3 0 _ rfl
 have f1:DataW.trod enc Tryz.prog w base spare held n 9 ((cs.drop 1).take (Tryz.prog.cellsOf 9))=some x1:=h3 1 _ rfl
 have f2:DataW.trod enc Tryz.prog w base spare held n 9 ((cs.drop 2).take (Tryz.prog.cellsOf 9))=some x2:=h3 2 _ rfl
 rw [show Tryz.prog.cellsOf 4=1 by kernel_rfl] at f0
 rw [show Tryz.prog.cellsOf 9=1 by kernel_rfl] at f1 f2
 match cs,hl with
 | [a,b,c],_=>
  obtain ⟨u,hu,e0⟩:=DataW.trod_bool Tryz.underlying4 f0
  obtain ⟨s,hs,e1,_⟩:=DataW.trod_string Tryz.underlying9 f1
  obtain ⟨t,ht,e2,_⟩:=DataW.trod_string Tryz.underlying9 f2
  simp at hu hs ht
  subst hu;subst hs;subst ht
  refine ⟨⟨u,s,t⟩, ?_, ?_⟩
  ·exact ((scal_c rfl rfl).append ((scal_c rfl rfl).append (scal_c rfl rfl)):DenC w ([.v (.bool u)] ++([.v (.string s)] ++ [.v (.string t)])) ([.bool u] ++([.string s] ++ [.string t])))
  ·subst hx e0 e1 e2
   have ew:DataW.weights (H:=H) Tryz.prog 27 (.agg ([(DataW.lit (.bool u), []),(DataW.lit (.string s.data.toList), []),(DataW.lit (.string t.data.toList), [])].map (·.1:DataW H×List MemPlace→DataW H)))= [s.data.toList.length,t.data.toList.length] :=by
    simp only [List.map_cons,List.map_nil]
    unfold DataW.weights
    rw [Tryz.underlying27]
    rfl
   have e3:s.data.toList.length=s.size:=Array.length_toList
   have e4:t.data.toList.length=t.size:=Array.length_toList
   simp only [ew,e3,e4]
   simp
theorem rats_cells(h:DataW.trod enc Tryz.prog w base spare held fuel 34 cs=some x): ∃l:List RD,DenC w [.l (dL l)] cs∧ ∀r∈l,r.num.size∈DataW.weights Tryz.prog 34 x.1∧r.den.size∈DataW.weights Tryz.prog 34 x.1:=by
 obtain ⟨l,h1,h2⟩:=slice_den2 Tryz.underlying34 (size:=3) (by kernel_rfl) (by omega) rdD (fun _=>rfl) (fun d r=>r.num.size∈DataW.weights Tryz.prog 27 d∧r.den.size∈DataW.weights Tryz.prog 27 d) (fun _ _ _ hh=>rat_cells2 hh) h
 refine ⟨l,h1,fun r hr=> ?_⟩
 rcases h2 with rfl|⟨es,rs,hx,h2⟩
 ·simp at hr
 ·obtain ⟨d,hd,k1,k2⟩:=h2 r hr
  rw [hx]
  have hall: ∀(es:List (DataW H)),d∈es→ ∀n∈DataW.weights Tryz.prog 27 d,n∈DataW.weightsAll Tryz.prog 27 es:=by
   intro es
   induction es with
   |nil=>intro h;simp at h
   |cons a es ih=>
    intro h n hn
    unfold DataW.weightsAll
    rcases List.mem_cons.1 h with rfl|h
    ·exact List.mem_append.2 (.inl hn)
    ·exact List.mem_append.2 (.inr (ih h n hn))
  have hw: ∀n∈DataW.weights Tryz.prog 27 d,n∈DataW.weights Tryz.prog 34 (.slice es rs):=fun n hn=>by
   unfold DataW.weights
   rw [Tryz.underlying34]
   exact List.mem_cons.2 (.inr (List.mem_append.2 (.inl (hall es hd n hn))))
  exact ⟨hw _ k1,hw _ k2⟩
end
theorem rat_den{H:Type}{enc:TypeId×Value→H}{W:World}{b0 base:Nat}{spare:Nat→Bool}{held:Bool}{v:Value}{d:DataW H}{ps:List MemPlace}(hv:Value.okWide Tryz.prog W .any b0 27 v)(h:DataW.Trod enc Tryz.prog W base spare held 27 v d ps):
  ∃r:RD,Den W (fun _=>True) (rdD r) v:=by
 obtain ⟨fuel,h⟩:=h
 obtain ⟨r,hc⟩:=rat_cells h
 refine ⟨r,agg_den ?_ hc⟩
 unfold Value.okWide at hv
 rw [Tryz.underlying27] at hv
 obtain ⟨cs,rfl,_⟩:=hv
 exact ⟨_,rfl⟩
theorem rats_den{H:Type}{enc:TypeId×Value→H}{W:World}{b0 base:Nat}{spare:Nat→Bool}{held:Bool}{v:Value}{d:DataW H}{ps:List MemPlace}(hv:Value.okWide Tryz.prog W .any b0 34 v)(h:DataW.Trod enc Tryz.prog W base spare held 34 v d ps):
  ∃l:List RD,Den W (fun _=>True) (.l (dL l)) v∧ ∀r∈l,r.num.size∈DataW.weights Tryz.prog 34 d∧r.den.size∈DataW.weights Tryz.prog 34 d:=by
 obtain ⟨fuel,h⟩:=h
 obtain ⟨l,hc,hw⟩:=rats_cells h
 refine ⟨l, ?_,hw⟩
 have hd:=hc.den (fun _=>True) (fun _=>trivial)
 unfold Value.okWide at hv
 rw [Tryz.underlying34] at hv
 have hvc:v.cells.toList= [v] :=by
  unfold Cell.okWide at hv
  rw [Tryz.underlying34] at hv
  cases v<;>first|rfl|(exfalso;exact hv)|(unfold Cell.ok at hv;rw [Tryz.underlying34] at hv;exact hv.elim)
 rw [hvc] at hd
 exact hd.2 0 _ _ rfl rfl
theorem lines_lifted(hA:Fun Tryz.prog 12 [] [.v (.bool true)])(os:Os)(started:os.Started)(H:Type)(enc:TypeId×Value→H):
  ReturnsInHanded {} Tryz.checked os 8 .any (Rows.rasterLinesSpec.pre6 enc Tryz.prog Tryz.f8 Rows.rasterLinesRow.domain false) (Rows.rasterLinesSpec.post enc Tryz.prog Tryz.f8 false true false false):=by
 refine returnsInHanded_of_change_sized (C:=Tryz.checked) tryz_own started (by kernel_rfl) Tryz.func8
  (ChangeSpec.witness6 (enc:=enc) (C:=Tryz.checked) false ⟨#[], #[.agg #[.slice none 0 0,.slice none 0 0],
   .agg #[.bool false,.string ⟨#[]⟩,.string ⟨#[]⟩],.slice none 0 0,.int .i64 0,.int .i64 0], []⟩ 8 (by kernel_rfl) (by kernel_rfl) (by kernel_rfl) (by kernel_rfl)) ?_
 intro W base args ds gs before hval0 hW hcnd hsz0 _
 have hval: ∀(j:Nat) t v,Tryz.f8.params[j]? =some t→args[j]? =some v→Value.okWide Tryz.prog W .any base t v:=hval0
 have hsz:(DataW.weightsEach Tryz.prog (Tryz.f8.params.toList++Rows.rasterLinesSpec.plain.varTypes Tryz.prog) (ds++gs)).all (· ≤reachBytes)=true:=hsz0
 have hW':=hW
 obtain ⟨p,q,hA0,hV,rfl,hfz,hnd⟩:=hW
 have hAr:DataW.TrodAll enc Tryz.prog W 0 (fun _=>true) true Tryz.f8.params.toList args.toList ds p:=hA0
 rw [Tryz.params8] at hAr hval hsz
 obtain ⟨v0,vs,d0,ds1,p0,q0,hargs,rfl,rfl,h0,hrest⟩:=trodAll_cons hAr
 obtain ⟨v1,vs',d1,ds2,p1,q1,rfl,rfl,rfl,h1,hrest'⟩:=trodAll_cons hrest
 obtain ⟨v2,vs'',d2,ds3,p2,q2,rfl,rfl,rfl,h2,hrest''⟩:=trodAll_cons hrest'
 obtain ⟨v3,vs''',d3,ds4,p3,q3,rfl,rfl,rfl,h3,hrest'''⟩:=trodAll_cons hrest''
 obtain ⟨v4,vs4,d4,ds5,p4,q4,rfl,rfl,rfl,h4,hrest4⟩:=trodAll_cons hrest'''
 obtain ⟨rfl,rfl,rfl⟩:=trodAll_nil hrest4
 obtain rfl:args= #[v0,v1,v2,v3,v4] :=by cases args;simp_all
 obtain ⟨rfl,rfl⟩:=trodVars_none hV
 clear hA0 hval0 hsz0
 obtain ⟨o,hs,e0⟩:=poly_den (hval 0 25 v0 rfl rfl) h0
 obtain ⟨y,e1⟩:=rat_den (hval 1 27 v1 rfl rfl) h1
 obtain ⟨l,e2,hwl⟩:=rats_den (hval 2 34 v2 rfl rfl) h2
 obtain ⟨m,rfl⟩:=cell_int Tryz.underlying3 (hval 3 3 v3 rfl rfl)
 obtain ⟨n,rfl⟩:=cell_int Tryz.underlying3 (hval 4 3 v4 rfl rfl)
 have hzl: ∀x∈l,Sw x:=fun x hx=>by
  obtain ⟨k1,k2⟩:=hwl x hx
  have hall:=List.all_eq_true.1 hsz
  have hin: ∀n∈DataW.weights Tryz.prog 34 d2,n≤140737488351232:=fun n hn=>by
   have:=hall n (by
    simp only [List.toList_toArray,List.cons_append,DataW.weightsEach,List.mem_append]
    exact .inr (.inr (.inl hn)))
   exact of_decide_eq_true this
  exact ⟨hin _ k1,hin _ k2⟩
 have hd:DenL W (fun _=>True) [pgR o hs,rdD y,.l (dL l),i64 m,i64 n] [v0,v1,v2,.int .i64 m,.int .i64 n] := .cons e0 (.cons e1 (.cons e2 (.cons (.v rfl) (.cons (.v rfl) (.nil _ _)))))
 refine ((law8 hA o hs y l m n hzl).2 W _ _ hd).mono fun e W' hr=> ?_
 obtain ⟨v,rfl,hv,hb⟩:=hr
 obtain rfl:v= .bool true:=by cases hv;rfl
 have hlt: ∀x∈p0++(p1++(p2++(p3++p4))),x.block<W.heap.size:=fun x hx=>hW'.lt x (by simpa using hx)
 refine ⟨_,rfl,post_below (pa:=p0++(p1++(p2++(p3++p4)))) (pv:= []) hW' (by simp) hb (fun _ _ _=>trodAll_mk1 (shut_bool Tryz.underlying4 _)) (fun sp hsp=> ?_) (fun _ _=>rfl) (ok_one (by kernel_rfl) rfl (okWide_bool_mk Tryz.underlying4 _))⟩
 have st: ∀{t:TypeId} {v:Value} {d:DataW H} {ps:List MemPlace},Tryz.prog.readableRec t=true→t<Tryz.prog.types.size→DataW.Trod enc Tryz.prog W 0 (fun _=>true) true t v d ps→(∀x∈ps,x∈p0++(p1++(p2++(p3++p4))))→DataW.Trod enc Tryz.prog W' 0 sp true t v d ps:=
  fun hr hrow h hin=>WideElems.Trod_stays tryz_laid hr hrow h (fun x hx=>hb.same (hlt x (hin x hx))) (fun x hx=>hsp x (by simpa using hin x hx))
 rw [Tryz.params8]
 have b0:DataW.Trod enc Tryz.prog W' 0 sp true 25 v0 d0 p0:=st (by kernel_rfl) (of_decide_eq_true (by kernel_rfl)) h0 (fun x hx=>by simp [hx])
 have b1:DataW.Trod enc Tryz.prog W' 0 sp true 27 v1 d1 p1:=st (by kernel_rfl) (of_decide_eq_true (by kernel_rfl)) h1 (fun x hx=>by simp [hx])
 have b2:DataW.Trod enc Tryz.prog W' 0 sp true 34 v2 d2 p2:=st (by kernel_rfl) (of_decide_eq_true (by kernel_rfl)) h2 (fun x hx=>by simp [hx])
 have b3:DataW.Trod enc Tryz.prog W' 0 sp true 3 (.int .i64 m) d3 p3:=st (by kernel_rfl) (of_decide_eq_true (by kernel_rfl)) h3 (fun x hx=>by simp [hx])
 have b4:DataW.Trod enc Tryz.prog W' 0 sp true 3 (.int .i64 n) d4 p4:=st (by kernel_rfl) (of_decide_eq_true (by kernel_rfl)) h4 (fun x hx=>by simp [hx])
 exact ⟨p0,_,b0,⟨p1,_,b1,trodAll_mk3 b2 b3 b4,rfl⟩,rfl⟩
end Go.Nv
end
