import Derived.WalkKit
import Derived.Deep.RegionLaw
import Derived.Deep.LoopGhost
import Derived.Deep.Draws
import Derived.Shelf.RegionOpenPlain
import Derived.Lib.SliceRun
import Derived.Lib.SlicesCompact
import Derived.Deep.MidRow
import Derived.Test.YtlmmifgminkdkaaGreatNvN6
import Derived.Test.YtlmmifgminkdkaaGreatNvT1
import Derived.Test.YtlmmifgminkdkaaGreatNvP1
set_option linter.all false
set_option maxRecDepth 100000
section
namespace Go.Nv
open Go.RowKit Go.Proofs Nw
instance:Inhabited RD:=⟨⟨false,emp,emp⟩⟩
theorem qmg{P:Program}(w:World)(t e ty:TypeId)(z:Value)(zs:List Value)(n:Nat)(hn:0<n)(ht:P.underlying t=some (.slice e))(hv: ∀w,(zeroValue e).run P w= .ok z w)(hz:(Builtin.zeroCells z.cells n).toList=zs)(h1: ∀u∈zs,u.oneCell'=true)(b o c:Nat)
  (hc: ∀j,j<zs.length->(w.cell? ⟨b,o+j,none⟩).isSome=true) (hf: ∀j,j<zs.length->w.frozen? ⟨b,o+j,none⟩=false):
  (Builtin.clear_ #[t] ty #[.slice (some ⟨b,o,none⟩) n c]).run P w= .ok (.tuple #[]) (w.setCells b o zs):=by
 have hst:=run_storeCells_cells (P:=P) b o zs 0 w (by simpa using hc) (by simpa using hf) h1
 simp only [Nat.add_zero] at hst
 obtain ⟨m,rfl⟩: ∃m,n=m+1:=⟨n-1,by omega⟩
 simp [Builtin.clear_,run_underlying ht,hv,hz,hst]
def qox:Array Value->Nat->List Value->Array Value
 |cur,_, [] =>cur
 |cur,o,v::r=>qox (cur.setIfInBounds o v) (o+1) r
theorem qik: ∀(vs:List Value) (cur:Array Value) (o:Nat),(qox cur o vs).size=cur.size
 | [],_,_=>rfl
 |v::r,cur,o=>by rw [qox,qik r];simp
theorem qqI: ∀(vs:List Value) (cur:Array Value) (o:Nat),o+vs.length<=cur.size->(qox cur o vs).toList.take (o+vs.length)=cur.toList.take o++vs
 | [],cur,o,_=>by simp [qox]
 |v::r,cur,o,h=>by
  have h':o+(r.length+1)<=cur.size:=h
  have:=qqI r (cur.setIfInBounds o v) (o+1) (by simp;omega)
  rw [qox,List.length_cons,show o+(r.length+1)=o+1+r.length by omega,this]
  have e:(cur.setIfInBounds o v).toList.take (o+1)=cur.toList.take o++ [v] :=by
   rw [Array.toList_setIfInBounds,List.take_set,List.take_succ_eq_append_getElem (by simp;omega)]
   rw [List.set_append_right _ _ (by simp;omega)]
   have:o-(List.take o cur.toList).length=0:=by simp;omega
   rw [this];rfl
  rw [e,List.append_assoc];rfl
theorem qnI: ∀(vs:List Value) (cur:Array Value) (o:Nat),(qox cur o vs).toList.take o=cur.toList.take o
 | [],_,_=>rfl
 |v::r,cur,o=>by
  have:=congrArg (List.take o) (qnI r (cur.setIfInBounds o v) (o+1))
  rw [List.take_take,List.take_take,Nat.min_eq_left (by omega)] at this
  rw [qox,this,Array.toList_setIfInBounds,List.take_set_of_le (Nat.le_refl o)]
theorem qnx: ∀(vs:List Value) (cur:Array Value) (o j:Nat),o+vs.length<=cur.size->(qox cur o vs)[j]? =if o<=j/\j<o+vs.length then vs[j-o]? else cur[j]?
 | [],cur,o,j,_=>by simp [qox];omega
 |v::r,cur,o,j,h=>by
  have h':o+(r.length+1)<=cur.size:=h
  rw [qox,qnx r _ (o+1) j (by simp;omega),List.length_cons]
  by_cases e:j=o
  ·subst e
   rw [if_neg (by omega),if_pos (by omega),Nat.sub_self,Array.getElem?_setIfInBounds,if_pos rfl,if_pos (by omega)];rfl
  ·by_cases c:o+1<=j/\j<o+1+r.length
   ·rw [if_pos c,if_pos (by omega)]
    obtain ⟨t,rfl⟩: ∃t,j=o+1+t:=⟨j-(o+1),by omega⟩
    rw [show o+1+t-(o+1)=t by omega,show o+1+t-o=t+1 by omega];rfl
   ·rw [if_neg c,if_neg (by omega),Array.getElem?_setIfInBounds,if_neg (fun e'=>e e'.symm)]
theorem qdF(g:Nat): ∀(vs:List Value) (o:Nat) (w:World) {cur:Array Value} {e:TypeId} {fz:Nat×Nat},w.heap[g]? =some (.cells cur e fz)->(w.setCells g o vs).heap[g]? =some (.cells (qox cur o vs) e fz)
 | [],_,_,_,_,_,h=>h
 |v::r,o,w,cur,e,fz,h=>by
  refine qdF g r (o+1) (w.setCell ⟨g,o,none⟩ v) ?_
  simp [World.setCell,h,Array.getElem?_modify]
theorem qdf(g:Nat): ∀(vs:List Value) (o:Nat) (w:World),w.grownBy (w.setCells g o vs) (some g)
 | [],_,w=>⟨rfl,rfl,rfl,Nat.le_refl _,fun _ _ _=>rfl⟩
 |v::r,o,w=>by
  have h:=qdf g r (o+1) (w.setCell ⟨g,o,none⟩ v)
  refine ⟨h.os,h.tape,h.output,Nat.le_trans (by simp [World.setCell]) h.size,fun k hk hne=> ?_⟩
  refine (h.block k (by simp [World.setCell];exact hk) hne).trans ?_
  have:g≠k:=fun e=>hne (by rw [e])
  simp [World.setCell,Array.getElem?_modify,this]
theorem qhV{W W1 W2:World}{r:Option Nat}(h:W.grownBy W1 r)(k:W1.grownBy W2 r):W.grownBy W2 r:=
 ⟨k.os.trans h.os,k.tape.trans h.tape,k.output.trans h.output,Nat.le_trans h.size k.size,fun b hb hne=>(k.block b (Nat.lt_of_lt_of_le hb h.size) hne).trans (h.block b hb hne)⟩
def encR(r:RD):List Value:= [.bool r.neg,.string r.num,.string r.den]
structure qd3 (w:World) (g cap n:Nat) (d:Array RD) (wr:World):Prop where
 gr:w.grownBy wr (some g)
 cur: ∃cur,wr.heap[g]? =some (.cells cur 23 (0,0))/\cur.size=cap*3/\d.size=n/\n<=cap/\ ∀i c,i<n->c<3->cur[i*3+c]? =(encR d[i]!)[c]?
theorem qex(r:RD):(encR r).length=3:=rfl
theorem qd3.cell{w:World}{g cap n:Nat}{d:Array RD}{wr:World}(h:qd3 w g cap n d wr){i:Nat}(hi:i<n){x:RD}(hx:d[i]! =x):
  wr.cell? ⟨g,i*3,none⟩=some (.bool x.neg)/\wr.cell? ⟨g,i*3+1,none⟩=some (.string x.num)/\wr.cell? ⟨g,i*3+2,none⟩=some (.string x.den)/\wr.frozen? ⟨g,i*3,none⟩=false/\wr.frozen? ⟨g,i*3+1,none⟩=false/\wr.frozen? ⟨g,i*3+2,none⟩=false:=by
 obtain ⟨cur,h1,h2,h3,h4,h5⟩:=h.cur
 have a:=h5 i 0 hi (by omega)
 have b:=h5 i 1 hi (by omega)
 have c:=h5 i 2 hi (by omega)
 rw [hx] at a b c
 simp [encR] at a b c
 refine ⟨?_, ?_, ?_, ?_, ?_, ?_⟩<;>simp [World.cell?,World.frozen?,h1,a,b,c]
theorem qd3.there{w:World}{g cap n:Nat}{d:Array RD}{wr:World}(h:qd3 w g cap n d wr){j:Nat}(hj:j<n*3):(wr.cell? ⟨g,j,none⟩).isSome=true/\wr.frozen? ⟨g,j,none⟩=false:=by
 obtain ⟨cur,h1,h2,h3,h4,h5⟩:=h.cur
 have:n*3<=cap*3:=Nat.mul_le_mul_right 3 h4
 have hj':j<cur.size:=by omega
 simp [World.cell?,World.frozen?,h1,hj']
theorem qd3.drew{w:World}{g cap n:Nat}{d:Array RD}{wr:World}(h:qd3 w g cap n d wr):qd3 w g cap n d wr.drew:=
 ⟨⟨h.gr.os,h.gr.tape,h.gr.output,h.gr.size,h.gr.block⟩,h.cur⟩
theorem qd3.store{w:World}{g cap n:Nat}{d:Array RD}{wr:World}(h:qd3 w g cap n d wr){k:Nat}(hk:k<n)(x:RD):qd3 w g cap n (d.setIfInBounds k x) (wr.setCells g (k*3) (encR x)):=by
 obtain ⟨cur,h1,h2,h3,h4,h5⟩:=h.cur
 have hm:n*3<=cap*3:=Nat.mul_le_mul_right 3 h4
 refine ⟨qhV h.gr (qdf _ _ _ _),qox cur (k*3) (encR x),qdF _ _ _ _ h1,by rw [qik,h2],by simp [h3],h4,fun i c hi hc=> ?_⟩
 rw [qnx _ _ _ _ (by rw [qex];omega),qex]
 by_cases e:i=k
 ·subst e
  rw [if_pos (by omega),show i*3+c-i*3=c by omega,getElem!_pos _ _ (by simp [h3];omega),Array.getElem_setIfInBounds_self]
 ·rw [if_neg (by omega),h5 i c hi hc]
  have:(d.setIfInBounds k x)[i]! =d[i]! :=by
   rw [getElem!_pos _ _ (by simp [h3];omega),getElem!_pos _ _ (by omega),Array.getElem_setIfInBounds_ne _ (fun e'=>e e'.symm)]
  rw [this]
theorem qq0(w:World)(x y:RD):(Op.equalIn 10000 23 (.agg #[.bool x.neg,.string x.num,.string x.den]) (.agg #[.bool y.neg,.string y.num,.string y.den])).run Tryz.prog w= .ok (decide (x=y)) w:=by
 have hk:qgE Tryz.prog 20 23=some [1,2,2] :=by kernel_rfl
 have:=((qm5 (P:=Tryz.prog) 20).1 20 23 _ (Nat.le_refl _) hk).2 9999 [.v (.bool x.neg),.v (.string x.num),.v (.string x.den)] [.v (.bool y.neg),.v (.string y.num),.v (.string y.den)] w (by omega) rfl rfl
 have e:decide (x=y)=qdD [.v (.bool x.neg),.v (.string x.num),.v (.string x.den)] [.v (.bool y.neg),.v (.string y.num),.v (.string y.den)] :=by
  obtain ⟨a,b,c⟩:=x;obtain ⟨a',b',c'⟩:=y
  simp only [qdD,eqD,eqV,RD.mk.injEq]
  rw [Bool.eq_iff_iff]
  have hb: ∀p q:ByteArray,(p==q)=decide (p=q):=by
   intro p q
   rw [Bool.eq_iff_iff,decide_eq_true_eq]
   constructor
   ·intro h;cases p;cases q;rw [ByteArray.mk.injEq];exact eq_of_beq h
   ·rintro rfl;cases p;exact beq_self_eq_true (α:=Array UInt8) _
  simp [hb]
 rw [e]
 exact this
end Go.Nv
end
section
namespace Go.Nv
open Go.RowKit Go.Proofs Nw Go.Lib
theorem qFD(n:Nat):(Builtin.zeroCells (Value.agg #[.bool false,.string ⟨#[]⟩,.string ⟨#[]⟩]).cells n).toList.length=n*3/\ ∀u∈(Builtin.zeroCells (Value.agg #[.bool false,.string ⟨#[]⟩,.string ⟨#[]⟩]).cells n).toList,u.oneCell'=true:=by
 refine ⟨by simp [Builtin.zeroCells,Value.cells];try omega,fun u hu=> ?_⟩
 simp [Builtin.zeroCells,Value.cells] at hu
 obtain ⟨i,hi,rfl⟩:=hu
 have:i%3<3:=Nat.mod_lt _ (by omega)
 match h:i%3 with
 |0=>rfl
 |1=>rfl
 |2=>rfl
 |n+3=>omega
def qk4(w:World)(b cap:Nat)(d:Array RD)(w':World):Prop:= ∃wr dk zs,qd3 w b cap d.size dk wr/\(compactUpTo d d.size).length<=d.size/\(∀j,j<(compactUpTo d d.size).length->(compactUpTo d d.size)[j]? =some dk[j]!)/\(w'=wr\/w'=wr.setCells b ((compactUpTo d d.size).length*3) zs)
set_option maxHeartbeats 8000000 in
theorem qtL(b cap:Nat)(d:Array RD)(w:World)(hH:qd3 w b cap d.size d w)(hm:cap<=9223372036854775807):
  Calls Tryz.prog 390 #[.slice (some ⟨b,0,none⟩) d.size cap] w fun e w'=>e= .returned (.slice (some ⟨b,0,none⟩) (compactUpTo d d.size).length cap)/\qk4 w b cap d w':=by
 have mixed:=Go.Nv.mixed
 obtain ⟨cur0,_,_,_,hcap,_⟩:=hH.cur
 have hdn: ∀q,qd3 w b cap d.size d (w.drewN q):=fun q=>⟨⟨hH.gr.os,hH.gr.tape,hH.gr.output,hH.gr.size,hH.gr.block⟩,hH.cur⟩
 have same: ∀q,(∀j,j<d.size->keeps d j=true)->(compactUpTo d d.size).length=d.size/\qk4 w b cap d (w.drewN q):=by
  intro q hall
  have e:compactUpTo d d.size=d.toList:=by rw [compactUpTo_all d _ hall,range_map_get]
  unfold qk4
  rw [e]
  refine ⟨by simp,w.drewN q,d, [],hdn q,by simp,fun j hj=> ?_,.inl rfl⟩
  have hj':j<d.size:=by simpa using hj
  rw [getElem!_pos d j hj'];simp [hj']
 have HS:Aside (∀q,(∀j,j<d.size->keeps d j=true)->(compactUpTo d d.size).length=d.size/\qk4 w b cap d (w.drewN q)):=same
 have HD:Aside (∀q,qd3 w b cap d.size d (w.drewN q)):=hdn
 have HH:Aside (qd3 w b cap d.size d w):=hH
 clear same hdn hH
 by_cases h2:d.size<2
 ·go_enter Tryz.func390,Tryz.ntmps390
  go_wp2
  go_ret
  obtain ⟨e1,e2⟩:=HS.out 0 (fun j hj=>keeps_lt_one d j (by omega))
  exact ⟨by rw [e1];rfl,e2⟩
 ·go_enter Tryz.func390,Tryz.ntmps390
  go_wp2
  go_loopg [3] d.size (fun g s3 wr=> ∃k q:Nat,1<=k/\k<=d.size/\d.size-k<=g/\s3= .int .i64 k/\wr=w.drewN q/\ ∀j,j<k->keeps d j=true)
  case atStart=>exact ⟨1,0,Nat.le_refl _,by omega,by omega,rfl,rfl,keeps_lt_one d⟩
  case round=>
   obtain ⟨k,q,hk1,hk,hg,rfl,rfl,hall⟩:=hrel
   by_cases hlt:k<d.size
   ·have A:Aside (∀j,j<k->keeps d j=true):=hall
    clear hall
    obtain ⟨x,hx⟩: ∃x,d[k]! =x:=⟨_,rfl⟩
    obtain ⟨y,hy⟩: ∃y,d[k-1]! =y:=⟨_,rfl⟩
    obtain ⟨c1,c2,c3,f1,f2,f3⟩:=HH.out.cell hlt hx
    obtain ⟨b1,b2,b3,g1,g2,g3⟩:=HH.out.cell (show k-1<d.size by omega) hy
    have B:Aside (d[k]! =x/\d[k-1]! =y):=⟨hx,hy⟩
    clear hx hy
    have he: ∀w,(Op.equalIn 10000 23 (.agg #[.bool x.neg,.string x.num,.string x.den]) (.agg #[.bool y.neg,.string y.num,.string y.den])).run Tryz.prog w= .ok (decide (x=y)) w:=fun w=>qq0 w x y
    by_cases hdup:x=y
    ·subst hdup
     go_wp2_with fail
     go_region_o
     go_wp2
     clear c1 c2 c3 f1 f2 f3 b1 b2 b3 g1 g2 g3 he
     go_loopg [3,5] d.size (fun g s3 s5 wr=> ∃(kk k2:Nat) (dk:Array RD),s3= .int .i64 kk/\s5= .int .i64 k2/\1<=k2/\k+k2<=d.size/\d.size-(k+k2)<=g/\qd3 w b cap d.size dk wr/\CompInv d (k+k2) kk dk)
     case atStart=>exact ⟨k,1,d,rfl,rfl,Nat.le_refl _,by omega,by omega,HD.out (q+1),CompInv.start A.out (keeps_neg (by omega) (by rw [B.out.1,B.out.2]))⟩
     case round=>
      obtain ⟨kk,k2,dk,rfl,rfl,h1,hle,hg2,hwr,hI⟩:=hrel
      have hkk:=hI.lt
      have hds:=hI.size
      have W2:Aside (qd3 w b cap d.size dk wr):=hwr
      have I2:Aside (CompInv d (k+k2) kk dk):=hI
      by_cases hlt2:k+k2<d.size
      ·obtain ⟨u,hu⟩: ∃u,d[k+k2]! =u:=⟨_,rfl⟩
       obtain ⟨v,hv⟩: ∃v,d[k+k2-1]! =v:=⟨_,rfl⟩
       obtain ⟨o,ho⟩: ∃o,dk[kk]! =o:=⟨_,rfl⟩
       obtain ⟨c1,c2,c3,f1,f2,f3⟩:=hwr.cell hlt2 ((hI.high (k+k2) (by omega)).trans hu)
       obtain ⟨b1,b2,b3,g1,g2,g3⟩:=hwr.cell (show k+k2-1<d.size by omega) ((hI.high (k+k2-1) (by omega)).trans hv)
       obtain ⟨a1,a2,a3,e1,e2,e3⟩:=hwr.cell (show kk<d.size by omega) ho
       rw [show (k+k2)*3=k*3+k2*3 by omega] at c1 c2 c3 f1 f2 f3
       rw [show (k+k2-1)*3=k*3+(k2-1)*3 by omega] at b1 b2 b3 g1 g2 g3
       have he: ∀w,(Op.equalIn 10000 23 (.agg #[.bool u.neg,.string u.num,.string u.den]) (.agg #[.bool v.neg,.string v.num,.string v.den])).run Tryz.prog w= .ok (decide (u=v)) w:=fun w=>qq0 w u v
       have C:Aside (d[k+k2]! =u/\d[k+k2-1]! =v):=⟨hu,hv⟩
       clear hu hv ho hwr hI
       by_cases huv:u=v
       ·subst huv
        go_wp2_with fail
        go_region_o
        go_wp2
        go_roundg (d.size-(k+(k2+1)))
        case measure=>omega
        case rel=>exact ⟨kk,k2+1,dk,rfl,by go_num,by omega,by omega,Nat.le_refl _,W2.out.drew,I2.out.skip (keeps_neg (by omega) (by rw [C.out.1,C.out.2]))⟩
       ·go_wp2_with fail
        go_region_o
        go_wp2
        go_roundg (d.size-(k+(k2+1)))
        case measure=>omega
        case rel=>
         refine ⟨kk+1,k2+1,dk.setIfInBounds kk u,by go_num,by go_num,by omega,by omega,Nat.le_refl _, ?_, ?_⟩
         ·exact (W2.out.drew).store (by omega) u
         ·have:=I2.out.keep hlt2 (keeps_pos (by rw [C.out.1,C.out.2];exact huv));rwa [C.out.1] at this
      ·have hend:k+k2=d.size:=by omega
       obtain ⟨zs,hzs⟩: ∃zs,(Builtin.zeroCells (Value.agg #[.bool false,.string ⟨#[]⟩,.string ⟨#[]⟩]).cells (d.size-kk)).toList=zs:=⟨_,rfl⟩
       have hzl:=(qFD (d.size-kk)).1
       have hz1:=(qFD (d.size-kk)).2
       rw [hzs] at hzl hz1
       have hcl: ∀ty,(Builtin.clear_ #[78] ty #[.slice (some ⟨b,kk*3,none⟩) (d.size-kk) (cap-kk)]).run Tryz.prog wr= .ok (.tuple #[]) (wr.setCells b (kk*3) zs):=
        fun ty=>qmg wr _ _ ty _ zs _ (by omega) Tryz.underlying78 Tryz.zeroValue23 hzs hz1 b (kk*3) _ (fun j hj=>by rw [hzl] at hj;exact (hwr.there (by omega)).1) (fun j hj=>by rw [hzl] at hj;exact (hwr.there (by omega)).2)
       clear hwr hI hzs hz1
       go_wp2
       go_ret
       have hI:=I2.out
       rw [hend] at hI
       refine ⟨by rw [hI.len];rfl, ?_⟩
       unfold qk4
       rw [hI.len]
       exact ⟨wr,dk,zs,W2.out,by omega,hI.low,.inr rfl⟩
    ·go_wp2_with fail
     go_region_o
     go_wp2
     go_roundg (d.size-(k+1))
     case measure=>omega
     case rel=>
      refine ⟨k+1,q+1,by omega,by omega,Nat.le_refl _,by go_num,rfl,fun j hj=> ?_⟩
      by_cases e:j=k
      ·subst e
       exact keeps_pos (by rw [B.out.1,B.out.2];exact hdup)
      ·exact A.out j (by omega)
   ·have:k=d.size:=by omega
    subst this
    go_wp2
    go_ret
    obtain ⟨e1,e2⟩:=HS.out q hall
    exact ⟨by rw [e1];rfl,e2⟩
set_option maxHeartbeats 8000000 in
theorem qvs(w:World):Calls Tryz.prog 390 #[.slice none 0 0] w fun e w'=>e= .returned (.slice none 0 0)/\w'=w:=by
 have mixed:=Go.Nv.mixed
 go_enter Tryz.func390,Tryz.ntmps390
 go_wp2
 go_ret
 exact ⟨rfl,rfl⟩
theorem quq{W:World}{ok:Nat->Prop}: ∀{vs us:List Value},qaM W ok (vs.map .v) us->us=vs
 | [],us,h=>List.eq_nil_of_length_eq_zero (by simpa using h.1)
 |v::vs,us,h=>by
  cases us with
  |nil=>have:=h.1;simp at this
  |cons u us=>
   have h0:=h.2 0 _ u rfl rfl
   have e:u=v:=by cases h0;rfl
   have ih:=quq (W:=W) (ok:=ok) (vs:=vs) (us:=us) ⟨by have:=h.1;simpa using this,fun i c x hc hx=>h.2 (i+1) c x (by simpa using hc) (by simpa using hx)⟩
   rw [e,ih]
theorem qxk{W:World}{ok:Nat->Prop}{vs:List Value}(h: ∀v∈vs,qmC v=true):qaM W ok (vs.map .v) vs:=by
 refine ⟨by simp,fun i c u hc hu=> ?_⟩
 rw [List.getElem?_map,hu] at hc
 simp at hc;subst hc
 exact .v (h u (List.mem_of_getElem? hu))
abbrev rdV(r:RD):D:= .a [.v (.bool r.neg),.v (.string r.num),.v (.string r.den)]
theorem qjM: ∀l:List RD,flat (l.map rdV)=(l.flatMap encR).map .v
 | [] =>rfl
 |r::l=>by
  have:=qjM l
  unfold flat at this ⊢
  rw [List.map_cons,List.flatMap_cons,this,List.flatMap_cons,List.map_append];rfl
theorem qlB: ∀(l:List RD) (i c:Nat),c<3->(l.flatMap encR)[i*3+c]? =match l[i]? with|some r=>(encR r)[c]? |none=>none
 | [],i,c,_=>by simp
 |r::l,0,c,h=>by
  rw [List.flatMap_cons,List.getElem?_append_left (by rw [qex];omega)]
  simp
 |r::l,i+1,c,h=>by
  rw [List.flatMap_cons,List.getElem?_append_right (by rw [qex];omega),qex,show (i+1)*3+c-3=i*3+c by omega,qlB l i c h]
  simp
theorem qlM: ∀(l:List RD),(l.flatMap encR).length=l.length*3
 | [] =>rfl
 |r::l=>by rw [List.flatMap_cons,List.length_append,qlM l,qex,List.length_cons];omega
theorem qsL(l:List RD): ∀v∈l.flatMap encR,qmC v=true:=by
 intro v hv
 obtain ⟨r,_,hr⟩:=List.mem_flatMap.1 hv
 simp [encR] at hr
 rcases hr with rfl|rfl|rfl<;>rfl
theorem qwx(l:List RD): ∀v∈l.flatMap encR,v.oneCell'=true:=by
 intro v hv
 obtain ⟨r,_,hr⟩:=List.mem_flatMap.1 hv
 simp [encR] at hr
 rcases hr with rfl|rfl|rfl<;>rfl
theorem qrO(l:List RD):qna Tryz.prog 390 23 3 [] (l.map rdV) ((compact l).map rdV):=by
 refine ⟨⟨Tryz.f390,Tryz.func390,rfl,rfl⟩,fun w ok v us0 us hown hden hone hok hus=> ?_⟩
 have hus0:us= [] :=List.eq_nil_of_length_eq_zero (by simpa using hus.1)
 subst hus0
 rw [qjM] at hden
 have hu0:=quq hden
 subst hu0
 obtain ⟨hl0,⟨rfl,hn0⟩|⟨g,cap,cur,rfl,hb0,hh,hnc,hcm,hcs,htk⟩⟩:=hown
 ·have hl:l= [] :=by simpa using hn0
  subst hl
  refine (qvs w).mono ?_
  rintro e w' ⟨rfl,rfl⟩
  refine ⟨_, [],rfl,⟨rfl,.inl ⟨rfl,rfl⟩⟩,⟨rfl,fun i c u hc=>by simp [flat,compact,compactUpTo] at hc⟩,fun i u hu=>by simp at hu,fun b hb=>by simp [blk] at hb,⟨rfl,rfl,rfl,Nat.le_refl _,fun _ _ _=>rfl⟩⟩
 ·rw [List.length_map] at*
  have hR:qd3 w g cap l.toArray.size l.toArray w:=by
   refine ⟨⟨rfl,rfl,rfl,Nat.le_refl _,fun _ _ _=>rfl⟩,cur,hh,hcs,rfl,by simpa using hnc,fun i c hi hc=> ?_⟩
   have hi':i<l.length:=by simpa using hi
   have:=qlB l i c hc
   rw [<-htk,List.getElem?_take,if_pos (by omega),Array.getElem?_toList] at this
   rw [this,List.getElem?_eq_getElem hi',getElem!_pos l.toArray i hi]
   simp
  have hw:=qtL g cap l.toArray w hR hcm
  refine hw.mono ?_
  rintro e w' ⟨rfl,wr,dk,zs,⟨hgr,cur2,k1,k2,k3,k4,k5⟩,hle,hlow,hw'⟩
  have hcl:(compact l).length=(compactUpTo l.toArray l.toArray.size).length:=by unfold compact;simp
  have hce:compact l=compactUpTo l.toArray l.toArray.size:=by unfold compact;simp
  rw [<-hce] at hle hlow hw' ⊢
  have hsz:l.toArray.size=l.length:=by simp
  rw [hsz] at hle k3 k4 k5
  have hmul:(compact l).length*3<=l.length*3:=Nat.mul_le_mul_right 3 hle
  have hmul2:l.length*3<=cap*3:=Nat.mul_le_mul_right 3 hnc
  have hcont:cur2.toList.take ((compact l).length*3)=(compact l).flatMap encR:=by
   refine List.ext_getElem? fun j=> ?_
   by_cases hj:j<(compact l).length*3
   ·rw [List.getElem?_take,if_pos hj,Array.getElem?_toList]
    have hq:j/3<(compact l).length:=Nat.div_lt_of_lt_mul (by omega)
    have hr:j%3<3:=Nat.mod_lt _ (by omega)
    have:=k5 (j/3) (j%3) (by omega) hr
    have h2:=qlB (compact l) (j/3) (j%3) hr
    rw [show j/3*3+j%3=j by omega] at this h2
    rw [this,h2,hlow _ hq]
   ·rw [List.getElem?_eq_none (by simp;omega),List.getElem?_eq_none (by rw [qlM];omega)]
  have hgr':w.grownBy w' (some g):=by
   rcases hw' with rfl|rfl
   ·exact hgr
   ·exact qhV hgr (qdf _ _ _ _)
  obtain ⟨cur3,q1,q2,q3⟩: ∃cur3,w'.heap[g]? =some (.cells cur3 23 (0,0))/\cur3.size=cap*3/\cur3.toList.take ((compact l).length*3)=(compact l).flatMap encR:=by
   rcases hw' with rfl|rfl
   ·exact ⟨cur2,k1,k2,hcont⟩
   ·exact ⟨_,qdF _ _ _ _ k1,by rw [qik,k2],by rw [qnI];exact hcont⟩
  refine ⟨_,(compact l).flatMap encR,rfl,⟨by rw [qlM,List.length_map],.inr ⟨g,cap,cur3,by rw [List.length_map],Nat.zero_le _,q1,by rw [List.length_map];omega,hcm,q2,by rw [List.length_map];exact q3⟩⟩, ?_, ?_,fun b hb=> .inl hb,hgr'⟩
  ·rw [qjM];exact qxk (qsL _)
  ·exact fun i u hu=>qwx _ u (List.mem_of_getElem? hu)
end Go.Nv
end
