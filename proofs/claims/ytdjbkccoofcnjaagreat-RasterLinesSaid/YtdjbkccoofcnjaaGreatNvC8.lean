import Derived.KernelRfl
import Derived.Test.YtdjbkccoofcnjaaGreatProg
import Derived.Test.YtdjbkccoofcnjaaGreatNvC7
import Derived.Test.YtdjbkccoofcnjaaGreatNvN5
import Derived.Test.YtdjbkccoofcnjaaGreatNvN3
import Derived.Test.YtdjbkccoofcnjaaGreatNvT1
import Derived.Test.YtdjbkccoofcnjaaGreatNvN2
set_option linter.all false
set_option maxRecDepth 100000
section
namespace Go.Nv
open Go.Proofs Nw
theorem bd_dv{s:ByteArray}(h:s.size≤12):bv s≤256^12:=Nat.le_trans (Nat.le_of_lt (bvl_lt _)) (Nat.pow_le_pow_right (by omega) h)
theorem gtR_bd{r:RD}(h:gtR r=false):Bd 12 r.val:=by
 unfold gtR at h
 simp at h
 refine mkRat_bd (dv_ne _) ?_ ?_
 ·show (sg r.neg (bv r.num)).natAbs≤_
  rw [sg_abs];exact bd_dv h.1
 ·have:=bd_dv h.2
  unfold dv
  split<;>omega
theorem gtR_sz{r:RD}(h:gtR r=false):Sz r:=by
 unfold gtR at h
 simp at h
 exact ⟨by omega,by omega⟩
end Go.Nv
end
section
namespace Go.Nv
open Go.RowKit Go.Proofs
theorem op_step{P:Program}{r:Option Nat}{n:Nat}{o:Oper}{a:Act}{W W':World}{v:Value}{K:Act→World→Prop}{Q:Exit→Act→World→Prop}(hnd: ∀c,o.op≠ .defer c)
  (hrun:(execOp a.eval o).run P W= .ok (.value v) W') (hK:K (a.put o.dst v) W'):o.wpIn (FW r) n P a W K Q:=by
 refine ⟨fun f _=>FW.fn r f, ?_⟩
 rw [Oper.semAt_eq _ _ _ hnd,hrun];exact hK
def wpL(P:Program)(Q:Act→World→Prop):List Oper→Act→World→Prop
 | [],a,W=>Q a W
 |o::l,a,W=>o.guard=none∧(∀c,o.op≠ .defer c)∧ ∃v W',(execOp a.eval o).run P W= .ok (.value v) W'∧wpL P Q l (a.put o.dst v) W'
theorem reg_ops{P:Program}{r:Option Nat}{n id:Nat}{ops:Array Oper}{a:Act}{W:World}{Q:Exit→Act→World→Prop}(h:wpL P (Q .normal) ops.toList a W):(Code.region id ops false).wpIn (FW r) n P Q a W:=by
 refine wpIn_region ?_
 have key: ∀(l:List Oper) (i:Nat) (a:Act) (W:World),ops.toList.drop i=l→wpL P (Q .normal) l a W→wpOpsIn (FW r) n P ops Q (List.range' i l.length) a W:=by
  intro l
  induction l with
  |nil=>intro i a W _ h;exact h
  |cons o l ih=>
   intro i a W hd h
   obtain ⟨hg,hnd,v,W',hrun,hk⟩:=h
   have hoi:ops[i]? =some o:=by
    have:(ops.toList.drop i)[0]? =some o:=by rw [hd];rfl
    simpa using this
   have hd':ops.toList.drop (i+1)=l:=by
    rw [←List.drop_drop,hd];rfl
   rw [List.length_cons,List.range'_succ]
   simp only [wpOpsIn,hoi]
   rw [if_pos (by simp [Region.wanted,hg])]
   exact op_step hnd hrun (ih (i+1) _ _ hd' hk)
 rw [List.range_eq_range']
 have:=key ops.toList 0 a W (by simp) h
 simpa using this
def stA(l:List Value):Act:={tmps:=l.toArray,defers:= [] }
theorem stA_put(l:List Value)(t:Nat)(v:Value):(stA l).put (some t) v=stA (l.set t v):=by
 simp [stA,Act.put]
theorem stA_ev(l:List Value)(t:Nat):(stA l).eval (.tmp t)=(l[t]?).getD undef:=by
 simp [stA,Act.eval,Array.getD_eq_getD_getElem?]
theorem stA_c(l:List Value)(v:Value):(stA l).eval (.const v)=v:=rfl
theorem wpL_cons{P:Program}{Q:Act→World→Prop}{o:Oper}{os:List Oper}{l:List Value}{W W':World}{t:Nat}{v:Value}(hg:o.guard=none)(hd:o.dst=some t)(hnd: ∀c,o.op≠ .defer c)
  (hrun:(execOp (stA l).eval o).run P W= .ok (.value v) W') (hk:wpL P Q os (stA (l.set t v)) W'):wpL P Q (o::os) (stA l) W:=by
 refine ⟨hg,hnd,v,W',hrun, ?_⟩
 rw [hd,stA_put];exact hk
theorem ex_mv{P:Program}{o:Oper}{ev:Operand→Value}{W:World}{a:Operand}{x:Value}(ho:o.op= .move a∨o.op= .assign a)(hx:ev a=x):(execOp ev o).run P W= .ok (.value x) W:=by
 rcases ho with ho|ho<;>simp [execOp,ho,hx]
theorem leaves_nil{F:Fence}{n:Nat}{P:Program}{fn:Func}{tmps:Array Value}{R:Ending→World→Prop}{W:World}{v:Value}(h:(results fn tmps).run P W= .ok v W)(hR:R (.returned v) W):LeavesInM F n P fn tmps R [] .returning W:=⟨v,h,hR⟩
theorem ex_apmk{P:Program}{o:Oper}{ev:Operand→Value}{W W':World}{t t2:TypeId}{a b:Operand}{x y v:Value}(ho:o.op= .call {callee:= .builtin .append,args:= #[a,b],argTypes:= #[t,t2] })(hx:ev a=x)(hy:ev b=y)(h:(Builtin.append_ #[t,t2] o.type #[x,y]).run P W= .ok v W'):
  (execOp ev o).run P W= .ok (.value v) W':=by
 simp [execOp,ho,resolve,invoke,builtin,hx,hy,h,Result.andThen]
theorem run_eqNil0{P:Program}{W:World}(n:Nat){t e:TypeId}(ht:P.underlying t=some (.slice e)):(Op.equalIn (n+1) t (.slice none 0 0) (.slice none 0 0)).run P W= .ok true W:=by
 unfold Op.equalIn
 simp [run_underlying ht]
theorem ex_nil{P:Program}{o:Oper}{ev:Operand→Value}{W:World}{t e:TypeId}{a b:Operand}(ho:o.op= .binOp .eql t a b t)(hx:ev a= .slice none 0 0)(hy:ev b= .slice none 0 0)(ht:P.underlying t=some (.slice e)):
  (execOp ev o).run P W= .ok (.value (.bool true)) W:=by
 have h:(Op.equal t (.slice none 0 0) (.slice none 0 0)).run P W= .ok true W:=run_eqNil0 9999 ht
 simp [execOp,ho,hx,hy,eqGuard,binOp,h]
theorem ex_bs{P:Program}{o:Oper}{ev:Operand→Value}{W:World}{t e:TypeId}{i:TypeInfo}(ho:o.op= .buildSlice t 0 #[])(ht:P.underlying t=some (.slice e))(hi:P.info? e=some i):
  (execOp ev o).run P W= .ok (.value (.slice (some ⟨W.heap.size,0,none⟩) 0 0)) (W.alloc (.cells #[] e)):=by
 simp [execOp,ho,Instr.buildSlice,run_underlying ht,sizeOf,typeInfo,hi,newRow,Instr.fill]
 have:Array.range 0= #[] :=by simp [Array.range]
 rw [this,Array.map_empty]
theorem funO_fun{P:Program}{g:FuncId}{args res:List D}{e:TypeId}{size:Nat}(h:FunO P g args e size res)(hu:Uni size res)(hs:0<size):Fun P g args [.l res] :=by
 refine ⟨h.1,fun w ok us hd=>(h.2 w ok us hd).mono fun r w' hr=> ?_⟩
 obtain ⟨v,vs,rfl,hown,hden,h1,hb⟩:=hr
 refine ⟨v,rfl, ?_,hb⟩
 show Den w' _ (.l res) v
 have hfl:=flat_uni hu
 rcases hown.2 with ⟨rfl,hn⟩|⟨b,cap,cur,rfl,hbase,hheap,hcap,hcm,hcs,htk⟩
 ·have:res= [] :=List.eq_nil_of_length_eq_zero hn
  subst this
  exact .l0 (by simp [maxLen]) fun _=>rfl
 ·by_cases hz:res= []
  ·subst hz
   exact .l0 hcm fun h=>by simp at h
  ·have hlen:0<res.length:=List.length_pos_iff.2 hz
   have hvl:vs.length=res.length*size:=hown.1
   have hpos:0<res.length*size:=Nat.mul_pos hlen hs
   refine .l (us:=vs) (off:=0) (fun h=>by rw [h] at hvl;simp at hvl;omega) (by rw [hvl,hfl]) (.inr hbase) (fun i u hi=> ?_) (fun i c u hc hu'=> ?_) h1 hcap hcm
   ·have:=hown.cells (g:=b) rfl i u hi
    rw [add_none] at this;exact this
   ·exact (hden.2 i c u hc hu').keep (fun _ _ _=>rfl) fun b hb' _=>hb'.1
end Go.Nv
end
