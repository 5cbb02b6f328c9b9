import Derived.Test.YtlmmifgminkdkaaGreatNxC5
import Derived.Test.YtlmmifgminkdkaaGreatNxC46
import Derived.Test.YtlmmifgminkdkaaGreatNxD10
set_option linter.all false
set_option maxRecDepth 100000
section
namespace Go.Nv
open Go.Proofs Nw Go.RowKit Go.ChangeAt Go.WideShapes Go.ChangeShapes
section
variable {H:Type} {enc:TypeId×Value->H} {P:Program} {w:World} {base:Nat} {spare:Nat->Bool} {held:Bool} {fuel:Nat} {t:TypeId} {cs:List Value} {x:DataW H×List MemPlace}
structure qhY (W:World) (ds:List D) (us:List Value):Prop where
 den: ∀ok:Nat->Prop,(∀b,ok b)->qaO W ok ds us
 one: ∀u∈us,u.oneCell'=true
theorem qhY.append{W:World}{a b:List D}{us vs:List Value}(h:qhY W a us)(k:qhY W b vs):qhY W (a++b) (us++vs):=
 ⟨fun ok ho=>(h.den ok ho).append (k.den ok ho),fun u hu=>(List.mem_append.1 hu).elim (h.one u) (k.one u)⟩
theorem qhi{α:Type}{Q:Nat->α->Prop}: ∀(n:Nat),(∀i,i<n-> ∃y,Q i y)-> ∃l:List α,l.length=n/\ ∀i (h:i<l.length),Q i l[i]
 |0,_=>⟨[],rfl,fun i h=>by simp at h⟩
 |n+1,h=>by
  obtain ⟨l,h1,h2⟩:=qhi n (fun i hi=>h i (by omega))
  obtain ⟨y,hy⟩:=h n (by omega)
  refine ⟨l++ [y],by simp [h1],fun i hi=> ?_⟩
  by_cases hl:i<l.length
  ·rw [List.getElem_append_left hl];exact h2 i hl
  ·have:i=l.length:=by simp at hi;omega
   subst this
   rw [List.getElem_append_right (by omega)]
   simp [h1,hy]
theorem qgv{α:Type}{W:World}(f:α->D){size:Nat}(hf: ∀y,(f y).cells.length=size){b:Nat}: ∀(l:List (α×List Value)) (off:Nat),(∀i (h:i<l.length),qhY W (f l[i].1).cells l[i].2/\l[i].2.length=size/\ ∀r,r<size->W.cell? ⟨b,off+i*size+r,none⟩=l[i].2[r]?)->
  qhY W (flat (l.map fun p=>f p.1)) (l.flatMap (·.2))/\ ∀(j:Nat) (u:Value),(l.flatMap (·.2))[j]? =some u->W.cell? ⟨b,off+j,none⟩=some u
 | [],off,_=>⟨⟨fun ok _=>qaO.nil _ _,fun u hu=>by simp at hu⟩,fun j u h=>by simp at h⟩
 |p::l,off,h=>by
  obtain ⟨a1,a2,a3⟩:=h 0 (by simp)
  obtain ⟨b1,b2⟩:=qgv f hf (b:=b) l (off+size) (fun i hi=>by
   have:=h (i+1) (by simpa using hi)
   simp only [List.getElem_cons_succ] at this
   refine ⟨this.1,this.2.1,fun r hr=> ?_⟩
   rw [<-this.2.2 r hr]
   congr 2
   rw [Nat.add_mul];omega)
  simp only [List.getElem_cons_zero] at a1 a2 a3
  refine ⟨?_,fun j u hj=> ?_⟩
  ·simp only [List.map_cons,List.flatMap_cons]
   exact a1.append b1
  ·simp only [List.flatMap_cons] at hj
   by_cases hl:j<size
   ·rw [List.getElem?_append_left (by omega)] at hj
    have:=a3 j hl
    rw [hj] at this
    simpa using this
   ·rw [List.getElem?_append_right (by omega)] at hj
    have:=b2 _ _ hj
    rw [a2] at this
    rw [<-this]
    congr 2
    omega
end
end Go.Nv
end
section
namespace Go.Nv
open Go.Proofs Nw Go.RowKit Go.ChangeAt Go.WideShapes Go.ChangeShapes
open Go.Proofs.YtlmmifgminkdkaaGreat
section
variable {H:Type} {enc:TypeId×Value->H} {P:Program} {w:World} {base:Nat} {spare:Nat->Bool} {held:Bool} {fuel:Nat} {t:TypeId} {cs:List Value} {x:DataW H×List MemPlace}
theorem qf8{e:TypeId}{size:Nat}(ht:P.underlying t=some (.slice e))(hc:P.cellsOf e=size)(h0:0<size){α:Type}(f:α->D)(hf: ∀y,(f y).cells.length=size)(R:DataW H->α->Prop)
  (elem: ∀(n:Nat) (cs:List Value) (x:DataW H×List MemPlace),DataW.trod enc P w base spare held n e cs=some x-> ∃y,qhY w (f y).cells cs/\R x.1 y)
  (h:DataW.trod enc P w base spare held fuel t cs=some x): ∃l:List α,qhY w [.l (l.map f)] cs/\(l= [] \/ ∃es rs,x.1= .slice es rs/\l.length<=es.length/\ ∀y∈l,∃d∈es,R d y):=by
 have single: ∀{d:D} {v:Value},(∀ok:Nat->Prop,(∀b,ok b)->Den w ok d v)->v.oneCell'=true->qhY w [d] [v] :=fun h1 h2=>
  ⟨fun ok ho=> .cons (h1 ok ho) (.nil _ _),fun u hu=>by rw [List.mem_singleton.1 hu];exact h2⟩
 rcases DataW.trod_slice ht h with ⟨rfl,_⟩|⟨a,len,cap,elems,rest,n,rfl,rfl,hx,_,hlc,hcap,hel,hget,_,_⟩
 ·exact ⟨[],single (fun ok _=> .l0 (by simp) fun _=>rfl) rfl,.inl rfl⟩
 ·have each: ∀i,i<len-> ∃p:α×List Value,qhY w (f p.1).cells p.2/\p.2.length=size/\(∀r,r<size->w.cell? ((a.add (i*size)).add r)=p.2[r]?)/\ ∃d∈elems.map (·.1),R d p.1:=by
   intro i hi
   have hi':=hget i hi
   rw [List.getElem?_eq_getElem (by omega),Option.bind_eq_some_iff] at hi'
   obtain ⟨us,h1,h2⟩:=hi'
   rw [hc] at h1
   obtain ⟨_,l1,c1⟩:=World.cells?_some h1
   obtain ⟨y,hy,hr⟩:=elem _ _ _ h2
   exact ⟨(y,us),hy,l1,c1,_,List.mem_map.2 ⟨_,List.getElem_mem _,rfl⟩,hr⟩
  obtain ⟨l,hl,hq⟩:=qhi len each
  cases hlen:len with
  |zero=>
   refine ⟨[],single (fun ok _=> .l0 hcap fun e=>by cases e) rfl,.inl rfl⟩
  |succ k=>
   have hsp:a=⟨a.block,a.off,none⟩:=by
    obtain ⟨q1,q2,q3,_⟩:=hq 0 (by omega)
    have:=q3 0 h0
    rw [List.getElem?_eq_getElem (by omega)] at this
    simp only [Nat.zero_mul,Addr.add,if_true] at this
    unfold World.cell? at this
    split at this
    ·split at this
     ·cases this
     ·rename_i hs
      obtain ⟨b,o,s⟩:=a
      cases s with
      |none=>rfl
      |some s=>simp at hs
    ·cases this
   have main:=qgv f hf (b:=a.block) l a.off (fun i hi=>by
    obtain ⟨q1,q2,q3,_⟩:=hq i hi
    refine ⟨q1,q2,fun r hr=> ?_⟩
    rw [<-q3 r hr]
    congr 1
    rw [hsp]
    unfold Addr.add
    by_cases h1:i*size=0
    ·rw [if_pos h1,h1]
     by_cases h2:r=0
     ·rw [if_pos h2,h2];rfl
     ·rw [if_neg h2];rfl
    ·rw [if_neg h1]
     by_cases h2:r=0
     ·rw [if_pos h2,h2];rfl
     ·rw [if_neg h2])
   refine ⟨l.map (·.1), ?_,.inr ⟨elems.map (·.1),rest.map (·.1),by rw [hx],by rw [List.length_map,List.length_map,hl];omega,fun y hy=> ?_⟩⟩
   ·have hxs:(l.map (·.1)).map f=l.map fun p=>f p.1:=by rw [List.map_map];rfl
    rw [hxs]
    have hlm:(l.map fun p=>f p.1).length=len:=by rw [List.length_map,hl]
    have hdl:=main.1.den (fun _=>True) (fun _=>trivial)
    have e1:Value.slice (some a) (k+1) cap= .slice (some ⟨a.block,a.off,none⟩) (l.map fun p=>f p.1).length cap:=by rw [<-hsp,hlm,hlen]
    rw [e1]
    refine single (fun ok ho=> ?_) rfl
    refine .l (us:=l.flatMap (·.2)) ?_ hdl.1 (ho _) main.2 (main.1.den ok ho).2 (fun i u hu=>main.1.one u (List.mem_of_getElem? hu)) (by omega) hcap
    intro hnil
    have hz:=hq 0 (by omega)
    have:l[0].2= [] :=by
     have h2: ∀p∈l,p.2= [] :=by simpa using hnil
     exact h2 _ (List.getElem_mem _)
    rw [this] at hz
    have:=hz.2.1
    simp at this;omega
   ·obtain ⟨p,hp,rfl⟩:=List.mem_map.1 hy
    obtain ⟨i,hi,rfl⟩:=List.getElem_of_mem hp
    exact (hq i hi).2.2.2
end
open Rows
theorem qsC{H:Type}(d:DataW H):1<=uptoBulk d:=by
 cases d with
 |lit v=>cases v<;>simp [uptoBulk]
 |_=>simp [uptoBulk]
theorem qiU{H:Type}{d:DataW H}: ∀{es:List (DataW H)},d∈es->uptoBulk d<=uptoBulkAll es
 | [],h=>by simp at h
 |a::es,h=>by
  unfold uptoBulkAll
  rcases List.mem_cons.1 h with rfl|h
  ·omega
  ·have:=qiU h;omega
theorem qgS{H:Type}: ∀(es:List (DataW H)),es.length<=uptoBulkAll es
 | [] =>by simp
 |a::es=>by
  unfold uptoBulkAll
  have:=qsC a
  have:=qgS es
  rw [List.length_cons];omega
theorem qnb{W:World}{v:Value}(h:qnC v=true)(h1:v.oneCell'=true):qhY W [.v v] [v] :=
 ⟨fun ok _=> .cons (.v h) (.nil _ _),fun u hu=>by rw [List.mem_singleton.1 hu];exact h1⟩
section
variable {H:Type} {enc:TypeId×Value->H} {w:World} {base:Nat} {spare:Nat->Bool} {held:Bool} {fuel:Nat} {cs:List Value} {x:DataW H×List MemPlace}
def RzB(n:Nat)(r:RD):Prop:=r.num.size<=n/\r.den.size<=n
theorem qz0(h:DataW.trod enc Tryz.prog w base spare held fuel 23 cs=some x): ∃r:RD,qhY w [.v (.bool r.neg),.v (.string r.num),.v (.string r.den)] cs/\RzB (uptoBulk x.1) r:=by
 obtain ⟨xs,n,_,hx,hl,h2,h3⟩:=DataW.trod_struct Tryz.underlying23 h
 have hl:cs.length=3:=hl.trans (by kernel_rfl)
 have h2:xs.length=3:=h2
 match xs,h2 with
 | [x0,x1,x2],_=>
 have f0:DataW.trod enc Tryz.prog w base spare held n 4 ((cs.drop 0).take (Tryz.prog.cellsOf 4))=some x0:=h3 0 _ rfl
 have f1:DataW.trod enc Tryz.prog w base spare held n 9 ((cs.drop 1).take (Tryz.prog.cellsOf 9))=some x1:=h3 1 _ rfl
 have f2:DataW.trod enc Tryz.prog w base spare held n 9 ((cs.drop 2).take (Tryz.prog.cellsOf 9))=some x2:=h3 2 _ rfl
 rw [show Tryz.prog.cellsOf 4=1 by kernel_rfl] at f0
 rw [show Tryz.prog.cellsOf 9=1 by kernel_rfl] at f1 f2
 match cs,hl with
 | [a,b,c],_=>
  obtain ⟨u,hu,e0⟩:=DataW.trod_bool Tryz.underlying4 f0
  obtain ⟨s,hs,e1,_⟩:=DataW.trod_string Tryz.underlying9 f1
  obtain ⟨t,ht,e2,_⟩:=DataW.trod_string Tryz.underlying9 f2
  simp at hu hs ht
  subst hu;subst hs;subst ht
  refine ⟨⟨u,s,t⟩, ?_, ?_⟩
  ·exact ((qnb rfl rfl).append ((qnb rfl rfl).append (qnb rfl rfl)):qhY w ([.v (.bool u)] ++([.v (.string s)] ++ [.v (.string t)])) ([.bool u] ++([.string s] ++ [.string t])))
  ·subst hx e0 e1 e2
   have e3:s.data.toList.length=s.size:=Array.length_toList
   have e4:t.data.toList.length=t.size:=Array.length_toList
   unfold RzB
   simp only [List.map_cons,List.map_nil,uptoBulk,uptoBulkAll,e3,e4]
   omega
def PzB(n:Nat)(p:RD×RD):Prop:=RzB n p.1/\RzB n p.2
theorem RzB.mono{n m:Nat}{r:RD}(h:RzB n r)(hm:n<=m):RzB m r:=⟨Nat.le_trans h.1 hm,Nat.le_trans h.2 hm⟩
theorem qBx(h:DataW.trod enc Tryz.prog w base spare held fuel 25 cs=some x): ∃p:RD×RD,qhY w (pR p).cells cs/\PzB (uptoBulk x.1) p:=by
 obtain ⟨xs,n,_,hx,hl,h2,h3⟩:=DataW.trod_struct Tryz.underlying25 h
 have hl:cs.length=6:=hl.trans (by kernel_rfl)
 have h2:xs.length=2:=h2
 match xs,h2 with
 | [x0,x1],_=>
 have f0:DataW.trod enc Tryz.prog w base spare held n 23 ((cs.drop 0).take (Tryz.prog.cellsOf 23))=some x0:=h3 0 _ rfl
 have f1:DataW.trod enc Tryz.prog w base spare held n 23 ((cs.drop 3).take (Tryz.prog.cellsOf 23))=some x1:=h3 1 _ rfl
 rw [show Tryz.prog.cellsOf 23=3 by kernel_rfl] at f0 f1
 obtain ⟨r,hr,k1⟩:=qz0 f0
 obtain ⟨s,hs,k2⟩:=qz0 f1
 refine ⟨(r,s), ?_, ?_⟩
 ·have:=hr.append hs
  rw [show (cs.drop 0).take 3++(cs.drop 3).take 3=cs by
   match cs,hl with
   | [a,b,c,d,e,f],_=>rfl] at this
  exact this
 ·subst hx
  have e:uptoBulk (DataW.agg ([x0,x1].map (·.1)):DataW H)=uptoBulk x0.1+(uptoBulk x1.1+0)+1:=by simp only [List.map_cons,List.map_nil,uptoBulk,uptoBulkAll]
  rw [e]
  exact ⟨k1.mono (by omega),k2.mono (by omega)⟩
theorem qy4(h:DataW.trod enc Tryz.prog w base spare held fuel 40 cs=some x): ∃l:List (RD×RD),qhY w [.l (rL l)] cs/\l.length<=uptoBulk x.1:=by
 obtain ⟨l,h1,h2⟩:=qf8 Tryz.underlying40 (size:=6) (by kernel_rfl) (by omega) pR (fun _=>rfl) (fun _ _=>True) (fun _ _ _ hh=>by obtain ⟨p,k1,_⟩:=qBx hh;exact ⟨p,k1,trivial⟩) h
 refine ⟨l,h1, ?_⟩
 rcases h2 with rfl|⟨es,rs,hx,k,_⟩
 ·simp
 ·rw [hx]
  have:=qgS es
  simp only [uptoBulk];omega
def LzB(n:Nat)(l:List (List (RD×RD))):Prop:=l.length<=n/\ ∀y∈l,y.length<=n
theorem qvq(h:DataW.trod enc Tryz.prog w base spare held fuel 41 cs=some x): ∃l:List (List (RD×RD)),qhY w [.l (hR l)] cs/\LzB (uptoBulk x.1) l:=by
 obtain ⟨l,h1,h2⟩:=qf8 Tryz.underlying41 (size:=1) (by kernel_rfl) (by omega) (fun l=>D.l (rL l)) (fun _=>rfl) (fun d y=>y.length<=uptoBulk d) (fun _ _ _ hh=>qy4 hh) h
 refine ⟨l,h1, ?_⟩
 rcases h2 with rfl|⟨es,rs,hx,k,k2⟩
 ·exact ⟨by simp,fun y hy=>by simp at hy⟩
 ·rw [hx]
  have:=qgS es
  refine ⟨by simp only [uptoBulk];omega,fun y hy=> ?_⟩
  obtain ⟨d,hd,q⟩:=k2 y hy
  have:=qiU hd
  simp only [uptoBulk];omega
def GzB(n:Nat)(o:List (RD×RD))(hs:List (List (RD×RD))):Prop:=o.length<=n/\LzB n hs
theorem qF7(h:DataW.trod enc Tryz.prog w base spare held fuel 43 cs=some x): ∃o hs,qhY w [.l (rL o),.l (hR hs)] cs/\GzB (uptoBulk x.1) o hs:=by
 obtain ⟨xs,n,_,hx,hl,h2,h3⟩:=DataW.trod_struct Tryz.underlying43 h
 have hl:cs.length=2:=hl.trans (by kernel_rfl)
 have h2:xs.length=2:=h2
 match xs,h2 with
 | [x0,x1],_=>
 have f0:DataW.trod enc Tryz.prog w base spare held n 40 ((cs.drop 0).take (Tryz.prog.cellsOf 40))=some x0:=h3 0 _ rfl
 have f1:DataW.trod enc Tryz.prog w base spare held n 41 ((cs.drop 1).take (Tryz.prog.cellsOf 41))=some x1:=h3 1 _ rfl
 rw [show Tryz.prog.cellsOf 40=1 by kernel_rfl] at f0
 rw [show Tryz.prog.cellsOf 41=1 by kernel_rfl] at f1
 obtain ⟨r,hr,k1⟩:=qy4 f0
 obtain ⟨s,hs,k2⟩:=qvq f1
 refine ⟨r,s, ?_, ?_⟩
 ·have:=hr.append hs
  rw [show (cs.drop 0).take 1++(cs.drop 1).take 1=cs by
   match cs,hl with
   | [a,b],_=>rfl] at this
  exact this
 ·subst hx
  have e:uptoBulk (DataW.agg ([x0,x1].map (·.1)):DataW H)=uptoBulk x0.1+(uptoBulk x1.1+0)+1:=by simp only [List.map_cons,List.map_nil,uptoBulk,uptoBulkAll]
  rw [e]
  exact ⟨by omega,by have:=k2.1;omega,fun y hy=>by have:=k2.2 y hy;omega⟩
def OzB(n:Nat)(x:Ob):Prop:=GzB n x.o x.hs
theorem qGg(h:DataW.trod enc Tryz.prog w base spare held fuel 45 cs=some x): ∃y:Ob,qhY w (obD y).cells cs/\OzB (uptoBulk x.1) y:=by
 obtain ⟨xs,n,_,hx,hl,h2,h3⟩:=DataW.trod_struct Tryz.underlying45 h
 have hl:cs.length=3:=hl.trans (by kernel_rfl)
 have h2:xs.length=2:=h2
 match xs,h2 with
 | [x0,x1],_=>
 have f0:DataW.trod enc Tryz.prog w base spare held n 9 ((cs.drop 0).take (Tryz.prog.cellsOf 9))=some x0:=h3 0 _ rfl
 have f1:DataW.trod enc Tryz.prog w base spare held n 43 ((cs.drop 1).take (Tryz.prog.cellsOf 43))=some x1:=h3 1 _ rfl
 rw [show Tryz.prog.cellsOf 9=1 by kernel_rfl] at f0
 rw [show Tryz.prog.cellsOf 43=2 by kernel_rfl] at f1
 obtain ⟨s,hs,e1,_⟩:=DataW.trod_string Tryz.underlying9 f0
 obtain ⟨o,l,hr,k1⟩:=qF7 f1
 refine ⟨⟨s,o,l⟩, ?_, ?_⟩
 ·have hs2:qhY w [.v (.string s)] ((cs.drop 0).take 1):=by rw [hs];exact qnb rfl rfl
  have:=hs2.append hr
  rw [show (cs.drop 0).take 1++(cs.drop 1).take 2=cs by
   match cs,hl with
   | [a,b,c],_=>rfl] at this
  exact this
 ·subst hx
  have e:uptoBulk (DataW.agg ([x0,x1].map (·.1)):DataW H)=uptoBulk x0.1+(uptoBulk x1.1+0)+1:=by simp only [List.map_cons,List.map_nil,uptoBulk,uptoBulkAll]
  rw [e]
  exact ⟨by have:=k1.1;show o.length<=_;omega,by have:=k1.2.1;show l.length<=_;omega,fun y hy=>by have:=k1.2.2 y hy;omega⟩
theorem qDT(h:DataW.trod enc Tryz.prog w base spare held fuel 28 cs=some x): ∃l:List Ob,qhY w [.l (oL l)] cs/\l.length<=uptoBulk x.1/\ ∀y∈l,OzB (uptoBulk x.1) y:=by
 obtain ⟨l,h1,h2⟩:=qf8 Tryz.underlying28 (size:=3) (by kernel_rfl) (by omega) obD (fun _=>rfl) (fun d y=>OzB (uptoBulk d) y) (fun _ _ _ hh=>qGg hh) h
 refine ⟨l,h1, ?_⟩
 rcases h2 with rfl|⟨es,rs,hx,k,k2⟩
 ·exact ⟨by simp,fun y hy=>by simp at hy⟩
 ·rw [hx]
  have:=qgS es
  refine ⟨by simp only [uptoBulk];omega,fun y hy=> ?_⟩
  obtain ⟨d,hd,q⟩:=k2 y hy
  have hm:=qiU hd
  have e:uptoBulk d<=uptoBulk (DataW.slice es rs):=by simp only [uptoBulk];omega
  exact ⟨Nat.le_trans q.1 e,Nat.le_trans q.2.1 e,fun z hz=>Nat.le_trans (q.2.2 z hz) e⟩
theorem qEf(h:DataW.trod enc Tryz.prog w base spare held fuel 27 cs=some x): ∃a b c d:RD,qhY w (quR a b c d).cells cs:=by
 obtain ⟨xs,n,_,hx,hl,h2,h3⟩:=DataW.trod_struct Tryz.underlying27 h
 have hl:cs.length=12:=hl.trans (by kernel_rfl)
 have h2:xs.length=2:=h2
 match xs,h2 with
 | [x0,x1],_=>
 have f0:DataW.trod enc Tryz.prog w base spare held n 25 ((cs.drop 0).take (Tryz.prog.cellsOf 25))=some x0:=h3 0 _ rfl
 have f1:DataW.trod enc Tryz.prog w base spare held n 25 ((cs.drop 6).take (Tryz.prog.cellsOf 25))=some x1:=h3 1 _ rfl
 rw [show Tryz.prog.cellsOf 25=6 by kernel_rfl] at f0 f1
 obtain ⟨r,hr,_⟩:=qBx f0
 obtain ⟨s,hs,_⟩:=qBx f1
 refine ⟨r.1,r.2,s.1,s.2, ?_⟩
 have:=hr.append hs
 rw [show (cs.drop 0).take 6++(cs.drop 6).take 6=cs by
  rw [List.drop_zero,show (cs.drop 6).take 6=cs.drop 6 from List.take_of_length_le (by rw [List.length_drop];omega),List.take_append_drop]] at this
 exact this
theorem qF3(h:DataW.trod enc Tryz.prog w base spare held fuel 30 cs=some x): ∃y:Ws,qhY w (wsD y).cells cs/\y.l.length<=uptoBulk x.1/\ ∀z∈y.l,OzB (uptoBulk x.1) z:=by
 obtain ⟨xs,n,_,hx,hl,h2,h3⟩:=DataW.trod_struct Tryz.underlying30 h
 have hl:cs.length=13:=hl.trans (by kernel_rfl)
 have h2:xs.length=2:=h2
 match xs,h2 with
 | [x0,x1],_=>
 have f0:DataW.trod enc Tryz.prog w base spare held n 27 ((cs.drop 0).take (Tryz.prog.cellsOf 27))=some x0:=h3 0 _ rfl
 have f1:DataW.trod enc Tryz.prog w base spare held n 28 ((cs.drop 12).take (Tryz.prog.cellsOf 28))=some x1:=h3 1 _ rfl
 rw [show Tryz.prog.cellsOf 27=12 by kernel_rfl] at f0
 rw [show Tryz.prog.cellsOf 28=1 by kernel_rfl] at f1
 obtain ⟨a,b,c,d,hr⟩:=qEf f0
 obtain ⟨l,hs,k1,k2⟩:=qDT f1
 refine ⟨⟨a,b,c,d,l⟩, ?_, ?_⟩
 ·have:=hr.append hs
  rw [show (cs.drop 0).take 12++(cs.drop 12).take 1=cs by
   rw [List.drop_zero,show (cs.drop 12).take 1=cs.drop 12 from List.take_of_length_le (by rw [List.length_drop];omega),List.take_append_drop]] at this
  exact this
 ·subst hx
  have e:uptoBulk (DataW.agg ([x0,x1].map (·.1)):DataW H)=uptoBulk x0.1+(uptoBulk x1.1+0)+1:=by simp only [List.map_cons,List.map_nil,uptoBulk,uptoBulkAll]
  rw [e]
  refine ⟨by show l.length<=_;omega,fun z hz=> ?_⟩
  have q:=k2 z hz
  exact ⟨by have:=q.1;omega,by have:=q.2.1;omega,fun y hy=>by have:=q.2.2 y hy;omega⟩
theorem qrx{ds:List D}{v:Value}(ha: ∃us,v= .agg us)(h:qhY w ds v.cells.toList):Den w (fun _=>True) (.a ds) v:=by
 obtain ⟨us,rfl⟩:=ha
 have hd:=h.den (fun _=>True) (fun _=>trivial)
 have e:(Value.agg us).cells.toList=us.toList:=rfl
 rw [e] at hd
 have:=Den.a (W:=w) (ok:=fun _=>True) hd.1 hd.2 (fun i u hu=>h.one u (by rw [e];exact List.mem_of_getElem? hu))
 simpa using this
end
end Go.Nv
end
