import Derived.Test.YtdjbkccoofcnjaaGreatNvN5
set_option linter.all false
set_option maxRecDepth 100000
section
namespace Go.Nv
open Go.RowKit
def goD(P:Program)(T:Tb)(mu:Tmp→Bool):Code→St→(Ex→St→Prop)→Prop
 | .skip,st,K=>K .normal st
 | .region id ops draw,st,K=>match draw with
  |true=>OkC P (.region id ops true) st K
  |false=>goOps P T mu ops.toList ops.toList st (norX K)
 | .seq a b,st,K=>goD P T mu a st (seqX (goD P T mu b) K)
 | .cond c a b,st,K=>match c with
  | .tmp d=>match lk st.env d with
   | .d (.v (.bool z))=>cnd z (frc ⟨st1 st.env d tt',st.t⟩ fun st=>goD P T mu a st K) (frc ⟨st1 st.env d ff',st.t⟩ fun st=>goD P T mu b st K)
   |_=>False
  |c=>match evx st.env c with
   | .d (.v (.bool z))=>cnd z (goD P T mu a st K) (goD P T mu b st K)
   |_=>False
 | .block id body,st,K=>goD P T mu body st (blkX id K)
 | .exit id,st,K=>K (.exit id) st
 | .ret,st,K=>K .ret st
 |c,st,K=>OkC P c st K
section
variable {P:Program} {T:Tb} {mu:Tmp→Bool}
theorem ok_goD(hm:P.follows .mixedOrders=true)(hT:TbOk P T)(c:Code): ∀(st:St) (K:Ex→St→Prop),goD P T mu c st K→Ok P c st K:=by
 induction c with
 |skip=>intro st K h n old bs w0 a W ι hr;exact wpIn_skip ⟨.normal,st,ι,rfl,h,hr⟩
 |region id ops draw=>
  intro st K h
  cases draw with
  |false=>
   intro n old bs w0 a W ι hr
   refine wpIn_region ?_
   have:=goOps_sound (n:=n) (old:=old) (bs:=bs) (w0:=w0) (Q:=Post old bs w0 K) (K:=norX K) hT (fun st' a' W' ι' hk hrel=>⟨.normal,st',ι',rfl,hk,hrel⟩)
    ops.toList 0 st a W ι (by simp) h hr
   rw [List.range_eq_range']
   simpa using this
  |true=>unfold goD OkC at h;exact h
 |seq x y ihx ihy=>
  intro st K h n old bs w0 a W ι hr
  refine wpIn_seq (wpIn_mono (ihx st _ h n old bs w0 a W ι hr) ?_)
  rintro e a' W' ⟨x',st',ι',rfl,hk,hrel⟩
  cases x' with
  |normal=>exact ihy st' K hk n old bs w0 a' W' ι' hrel
  |exit id=>exact ⟨.exit id,st',ι',rfl,hk,hrel⟩
  |ret=>exact ⟨.ret,st',ι',rfl,hk,hrel⟩
 |cond o x y ihx ihy=>
  intro st K h n old bs w0 a W ι hr
  have key: ∀z,ev st.env o= .d (.v (.bool z))→(z=true→goD P T mu x st K)→(z=false→goD P T mu y st K)→(Code.cond o x y).wpIn (FW w0.r) n P (Post old bs w0 K) a W:=by
   intro z hz h1 h2
   have hsd:=hr.ev o
   rw [hz] at hsd
   refine wpIn_cond (sd_v hsd).1 ?_
   cases z with
   |true=>exact ihx st K (h1 rfl) n old bs w0 a W ι hr
   |false=>exact ihy st K (h2 rfl) n old bs w0 a W ι hr
  unfold goD at h
  split at h
  ·rename_i d
   split at h
   ·rename_i z hz
    have hz':ev st.env (.tmp d)= .d (.v (.bool z)):=by rw [←evx_eq];exact hz
    refine key z hz' (fun e=> ?_) (fun e=> ?_)
    ·subst e
     have e1:st1 st.env d tt'=st.env:=st1_id hz (by simp [tt',ff'])
     simp only [cnd,e1,frc_eq] at h
     exact h
    ·subst e
     have e1:st1 st.env d ff'=st.env:=st1_id hz (by simp [tt',ff'])
     simp only [cnd,e1,frc_eq] at h
     exact h
   ·exact h.elim
  ·rw [evx_eq] at h
   split at h
   ·rename_i z hz
    refine key z hz (fun e=> ?_) (fun e=> ?_)
    ·subst e;exact h
    ·subst e;exact h
   ·exact h.elim
 |block id x ih=>
  intro st K h n old bs w0 a W ι hr
  refine wpIn_block (wpIn_mono (ih st _ h n old bs w0 a W ι hr) ?_)
  rintro e a' W' ⟨x',st',ι',rfl,hk,hrel⟩
  cases x' with
  |normal=>exact ⟨.normal,st',ι',rfl,hk,hrel⟩
  |exit i=>
   simp only [Ex.toExit,Exit.inBlock]
   simp only [blkX] at hk
   by_cases hi:i=id
   ·simp only [hi,Nat.beq_refl,if_true] at hk ⊢;exact ⟨.normal,st',ι',rfl,hk,hrel⟩
   ·simp only [if_neg hi,show Nat.beq i id=false by rw [Bool.eq_false_iff];intro h';exact hi (Nat.eq_of_beq_eq_true h')] at hk ⊢;exact ⟨.exit i,st',ι',rfl,hk,hrel⟩
  |ret=>exact ⟨.ret,st',ι',rfl,hk,hrel⟩
 |exit id=>intro st K h n old bs w0 a W ι hr;exact wpIn_exit ⟨.exit id,st,ι,rfl,h,hr⟩
 |ret=>intro st K h n old bs w0 a W ι hr;exact wpIn_ret ⟨.ret,st,ι,rfl,h,hr⟩
 |loop x ih=>intro st K h;unfold goD OkC at h;exact h
 |rangeFunc f ps as body _ _=>intro st K h;unfold goD OkC at h;exact h
 |scope body _=>intro st K h;unfold goD OkC at h;exact h
 |label l=>intro st K h;unfold goD OkC at h;exact h
 |goto l=>intro st K h;unfold goD OkC at h;exact h
 |refuse w=>intro st K h;unfold goD OkC at h;exact h
theorem okc_go{c:Code}{st:St}{K:Ex→St→Prop}(mu:Tmp→Bool)(hm:P.follows .mixedOrders=true)(hT:TbOk P T)(h:go P T mu c st K):OkC P c st K:=okc_intro (ok_go hm hT c st K h)
theorem okc_drawY{K:Ex→St→Prop}{st:St}{id:Nat}{ops:Array Oper}(p:Nat)(y:Oper)(mu:Tmp→Bool)(f:Operand)(args:List Operand)(hm:P.follows .mixedOrders=true)(hT:TbOk P T)(hy:ops[p]? =some y)(hg:y.guard=none)
  (hop: ∃ts,y.op= .call {callee:= .value f,args:=args.toArray,argTypes:=ts}) (hmid:midB ops p=true)
  (h:goDrs P T mu ops.toList (ops.toList.take p) [] st fun ls1 st1=>SafeG ops (ls1++repL (ops.size-p)) (CallK P f args y.dst st1 fun st2=>
   goDrs P T mu ops.toList (ops.toList.drop (p+1)) (repL (p+1)) st2 fun ls3 st3=>SafeG ops ls3 (K .normal st3))):OkC P (.region id ops true) st K:=by
 obtain ⟨ts,hop⟩:=hop
 exact okc_intro (ok_drawY hm hT p hy hg hop hmid h)
theorem loop_introD{body:Code}{st:St}{K:Ex→St→Prop}{α:Type}(mu:Tmp→Bool)(I:α→St)(inv:α→Prop)(μ:α→Nat)(x0:α)(hm:P.follows .mixedOrders=true)(hT:TbOk P T)(h0:inv x0)(hw:Weak st (I x0))
  (h: ∀x,inv x→goD P T mu body (I x) (lpX (fun st'=> ∃y,inv y∧μ y<μ x∧Weak st' (I y)) K)):OkC P (.loop body) st K:=by
 exact loop_ok I inv μ x0 h0 hw fun x hx=>ok_goD hm hT _ _ _ (h x hx)
theorem asgK_mono{k:Nat}{C C':St→Prop}(h: ∀st,C st→C' st)(e:Ex)(st:St):asgK k C e st→asgK k C' e st:=by
 unfold asgK
 split
 ·split
  ·split
   ·rw [frc_eq,frc_eq];exact h _
   ·exact id
  ·exact id
 ·exact id
theorem call_yield{st:St}{K:St→Prop}{f:Operand}{args:List Operand}{dst:Option Tmp}{k:Nat}{pend:Option Code}{ps:Array Tmp}{asg body:Code}{cs:List S}(mu:Tmp→Bool)(hm:P.follows .mixedOrders=true)(hT:TbOk P T)
  (hcal:evx st.env f= .own k 0) (hk:tatX st.t k= .loop .ready pend ps asg body cs) (hlen:args.length=ps.size)
  (h:goD P T mu asg ⟨zipS ps.toList (mapX (evx st.env) args) cs,tputX st.t (len' st.t) (.ghost st.env)⟩ (asgK k fun st2=>goD P T mu body st2 (yldK k (len' st.t) dst K))):CallK P f args dst st K:=
 call_yield_ok hcal hk hlen ((ok_goD hm hT _ _ _ h).mono fun e st' h'=>asgK_mono (fun st h=>ok_goD hm hT _ _ _ h) e st' h')
theorem range_intro{st:St}{K:Ex→St→Prop}{f:Operand}{ps:Array Tmp}{asg body:Code}{g:FuncId}{cap:List S}{fn:Func}{c:Code}(mu:Tmp→Bool)(hm:P.follows .mixedOrders=true)(hT:TbOk P T)
  (hcal:calleeOf (evx st.env f)=some (g,cap)) (hf:P.funcs[g]? =some fn) (hb:fn.body=some c) (hn:(fn.name== "runtime.NumGoroutine")=false) (hres:fn.results= #[])
  (h:goD P T mu c ⟨.own (len' st.t) 0::appX' cap (tops (fn.ntmps-(1+len' cap))),tputX st.t (len' st.t) (.loop .ready none ps asg body st.env)⟩ (rngK (len' st.t) K)):OkC P (.rangeFunc f ps asg body) st K:=
 okc_intro (ok_range hcal hf hb hn hres (ok_goD hm hT _ _ _ h))
end
end Go.Nv
end
section
namespace Go.Nv
open Go.RowKit
def goI(P:Program)(T:Tb)(mu:Tmp→Bool)(k:Nat):Code→St→(Ex→St→Prop)→Prop
 | .skip,st,K=>K .normal st
 | .region id ops draw,st,K=>match Nat.beq id k with
  |true=>OkC P (.region id ops draw) st K
  |false=>go P T mu (.region id ops draw) st K
 | .seq a b,st,K=>goI P T mu k a st (seqX (goI P T mu k b) K)
 | .cond c a b,st,K=>match c with
  | .tmp d=>match lk st.env d with
   | .d (.v (.bool z))=>cnd z (frc ⟨st1 st.env d tt',st.t⟩ fun st=>goI P T mu k a st K) (frc ⟨st1 st.env d ff',st.t⟩ fun st=>goI P T mu k b st K)
   |_=>False
  |c=>match evx st.env c with
   | .d (.v (.bool z))=>cnd z (goI P T mu k a st K) (goI P T mu k b st K)
   |_=>False
 | .block id body,st,K=>goI P T mu k body st (blkX id K)
 | .exit id,st,K=>K (.exit id) st
 | .ret,st,K=>K .ret st
 |c,st,K=>OkC P c st K
section
variable {P:Program} {T:Tb} {mu:Tmp→Bool}
theorem ok_goI{k:Nat}(hm:P.follows .mixedOrders=true)(hT:TbOk P T)(c:Code): ∀(st:St) (K:Ex→St→Prop),goI P T mu k c st K→Ok P c st K:=by
 induction c with
 |skip=>intro st K h n old bs w0 a W ι hr;exact wpIn_skip ⟨.normal,st,ι,rfl,h,hr⟩
 |region id ops draw=>
  intro st K h
  unfold goI at h
  cases hk:Nat.beq id k with
  |true=>rw [hk] at h;unfold OkC at h;exact h
  |false=>rw [hk] at h;exact ok_go hm hT _ _ _ h
 |seq x y ihx ihy=>
  intro st K h n old bs w0 a W ι hr
  refine wpIn_seq (wpIn_mono (ihx st _ h n old bs w0 a W ι hr) ?_)
  rintro e a' W' ⟨x',st',ι',rfl,hk,hrel⟩
  cases x' with
  |normal=>exact ihy st' K hk n old bs w0 a' W' ι' hrel
  |exit id=>exact ⟨.exit id,st',ι',rfl,hk,hrel⟩
  |ret=>exact ⟨.ret,st',ι',rfl,hk,hrel⟩
 |cond o x y ihx ihy=>
  intro st K h n old bs w0 a W ι hr
  have key: ∀z,ev st.env o= .d (.v (.bool z))→(z=true→goI P T mu k x st K)→(z=false→goI P T mu k y st K)→(Code.cond o x y).wpIn (FW w0.r) n P (Post old bs w0 K) a W:=by
   intro z hz h1 h2
   have hsd:=hr.ev o
   rw [hz] at hsd
   refine wpIn_cond (sd_v hsd).1 ?_
   cases z with
   |true=>exact ihx st K (h1 rfl) n old bs w0 a W ι hr
   |false=>exact ihy st K (h2 rfl) n old bs w0 a W ι hr
  unfold goI at h
  split at h
  ·rename_i d
   split at h
   ·rename_i z hz
    have hz':ev st.env (.tmp d)= .d (.v (.bool z)):=by rw [←evx_eq];exact hz
    refine key z hz' (fun e=> ?_) (fun e=> ?_)
    ·subst e
     have e1:st1 st.env d tt'=st.env:=st1_id hz (by simp [tt',ff'])
     simp only [cnd,e1,frc_eq] at h
     exact h
    ·subst e
     have e1:st1 st.env d ff'=st.env:=st1_id hz (by simp [tt',ff'])
     simp only [cnd,e1,frc_eq] at h
     exact h
   ·exact h.elim
  ·rw [evx_eq] at h
   split at h
   ·rename_i z hz
    refine key z hz (fun e=> ?_) (fun e=> ?_)
    ·subst e;exact h
    ·subst e;exact h
   ·exact h.elim
 |block id x ih=>
  intro st K h n old bs w0 a W ι hr
  refine wpIn_block (wpIn_mono (ih st _ h n old bs w0 a W ι hr) ?_)
  rintro e a' W' ⟨x',st',ι',rfl,hk,hrel⟩
  cases x' with
  |normal=>exact ⟨.normal,st',ι',rfl,hk,hrel⟩
  |exit i=>
   simp only [Ex.toExit,Exit.inBlock]
   simp only [blkX] at hk
   by_cases hi:i=id
   ·simp only [hi,Nat.beq_refl,if_true] at hk ⊢;exact ⟨.normal,st',ι',rfl,hk,hrel⟩
   ·simp only [if_neg hi,show Nat.beq i id=false by rw [Bool.eq_false_iff];intro h';exact hi (Nat.eq_of_beq_eq_true h')] at hk ⊢;exact ⟨.exit i,st',ι',rfl,hk,hrel⟩
  |ret=>exact ⟨.ret,st',ι',rfl,hk,hrel⟩
 |exit id=>intro st K h n old bs w0 a W ι hr;exact wpIn_exit ⟨.exit id,st,ι,rfl,h,hr⟩
 |ret=>intro st K h n old bs w0 a W ι hr;exact wpIn_ret ⟨.ret,st,ι,rfl,h,hr⟩
 |loop x ih=>intro st K h;unfold goI OkC at h;exact h
 |rangeFunc f ps as body _ _=>intro st K h;unfold goI OkC at h;exact h
 |scope body _=>intro st K h;unfold goI OkC at h;exact h
 |label l=>intro st K h;unfold goI OkC at h;exact h
 |goto l=>intro st K h;unfold goI OkC at h;exact h
 |refuse w=>intro st K h;unfold goI OkC at h;exact h
theorem loop_introI{body:Code}{st:St}{K:Ex→St→Prop}{α:Type}(mu:Tmp→Bool)(k:Nat)(I:α→St)(inv:α→Prop)(μ:α→Nat)(x0:α)(hm:P.follows .mixedOrders=true)(hT:TbOk P T)(h0:inv x0)(hw:Weak st (I x0))
  (h: ∀x,inv x→goI P T mu k body (I x) (lpX (fun st'=> ∃y,inv y∧μ y<μ x∧Weak st' (I y)) K)):OkC P (.loop body) st K:=by
 exact loop_ok I inv μ x0 h0 hw fun x hx=>ok_goI hm hT _ _ _ (h x hx)
end
end Go.Nv
end
section
namespace Go.Nv
open Go.RowKit
section
variable {P:Program} {b:Frame} {a:Act} {k:List Item} {cs:List Frame} {w:World}
end
end Go.Nv
end
