import Derived.Test.YtdjbkccoofcnjaaGreatNvN6
set_option linter.all false
set_option maxRecDepth 100000
section
namespace Go.Nv
open Go.RowKit
abbrev R:=Option (List D)
def fB(b:Bool)(K:Bool→R):R:=match b with|true=>K true|false=>K false
def fN(n:Nat)(K:Nat→R):R:=match n with|0=>K 0|n+1=>K (n+1)
def fI(n:Int)(K:Int→R):R:=match n with| .ofNat n=>fN n fun n=>K (.ofNat n)| .negSucc n=>fN n fun n=>K (.negSucc n)
def fL{β:Type}(f:β→(β→R)→R):List β→(List β→R)→R
 | [],K=>K []
 |x::xs,K=>f x fun x=>fL f xs fun xs=>K (x::xs)
def fU(b:UInt8)(K:UInt8→R):R:=fN b.toNat fun n=>K (UInt8.ofNat n)
def fV(v:Value)(K:Value→R):R:=match v with
 | .bool b=>fB b fun b=>K (.bool b)
 | .int k n=>fI n fun n=>K (.int k n)
 | .string s=>fL fU s.data.toList fun l=>K (.string ⟨l.toArray⟩)
 |v=>K v
def fD:Nat→D→(D→R)→R
 |0,d,K=>K d
 |n+1,d,K=>match d with
  | .v x=>fV x fun x=>K (.v x)
  | .a cs=>fL (fD n) cs fun cs=>K (.a cs)
  | .l cs=>fL (fD n) cs fun cs=>K (.l cs)
  | .p off cs=>fN off fun off=>fL (fD n) cs fun cs=>K (.p off cs)
  | .f g cs=>fL (fD n) cs fun cs=>K (.f g cs)
def fS:Nat→S→(S→R)→R
 |0,s,K=>K s
 |n+1,s,K=>match s with
  | .d x=>fD 8 x fun x=>K (.d x)
  | .ptr a b c=>fN a fun a=>fN b fun b=>fN c fun c=>K (.ptr a b c)
  | .own a b=>fN a fun a=>fN b fun b=>K (.own a b)
  | .clo g cs=>fL (fS n) cs fun cs=>K (.clo g cs)
  | .tup cs=>fL (fS n) cs fun cs=>K (.tup cs)
  | .agg cs=>fL (fS n) cs fun cs=>K (.agg cs)
  | .top=>K .top
def fK(b:B)(K:B→R):R:=match b with
 | .box t cs=>fL (fS 6) cs fun cs=>K (.box t cs)
 | .row v e s y xs=>fN v fun v=>fL (fD 8) xs fun xs=>K (.row v e s y xs)
 | .dead=>K .dead
 | .gone=>K .gone
 | .ghost cs=>K (.ghost cs)
 | .loop s p ps asg body cs=>K (.loop s p ps asg body cs)
def fE{β:Type}:List β→(List β→R)→R:=fL fun x K=>K x
theorem fB_eq(b:Bool)(K:Bool→R):fB b K=K b:=by cases b<;>rfl
theorem fN_eq(n:Nat)(K:Nat→R):fN n K=K n:=by cases n<;>rfl
theorem fI_eq(n:Int)(K:Int→R):fI n K=K n:=by cases n<;>simp [fI,fN_eq]
theorem fL_eq{β:Type}{f:β→(β→R)→R}(h: ∀x K,f x K=K x): ∀(l:List β) (K:List β→R),fL f l K=K l
 | [],K=>rfl
 |x::xs,K=>by rw [fL,h,fL_eq h xs]
theorem fU_eq(b:UInt8)(K:UInt8→R):fU b K=K b:=by simp [fU,fN_eq]
theorem fV_eq(v:Value)(K:Value→R):fV v K=K v:=by
 unfold fV
 split
 ·rw [fB_eq]
 ·rw [fI_eq]
 ·rw [fL_eq fU_eq]
 ·rfl
theorem fD_eq: ∀(n:Nat) (d:D) (K:D→R),fD n d K=K d
 |0,d,K=>rfl
 |n+1,d,K=>by
  unfold fD
  split
  ·rw [fV_eq]
  ·rw [fL_eq (fD_eq n)]
  ·rw [fL_eq (fD_eq n)]
  ·rw [fN_eq,fL_eq (fD_eq n)]
  ·rw [fL_eq (fD_eq n)]
theorem fS_eq: ∀(n:Nat) (s:S) (K:S→R),fS n s K=K s
 |0,s,K=>rfl
 |n+1,s,K=>by
  unfold fS
  split
  ·rw [fD_eq]
  ·rw [fN_eq,fN_eq,fN_eq]
  ·rw [fN_eq,fN_eq]
  ·rw [fL_eq (fS_eq n)]
  ·rw [fL_eq (fS_eq n)]
  ·rw [fL_eq (fS_eq n)]
  ·rfl
theorem fK_eq(b:B)(K:B→R):fK b K=K b:=by
 unfold fK
 split<;>first|rfl|rw [fL_eq (fS_eq 6)] |rw [fN_eq,fL_eq (fD_eq 8)]
theorem fE_eq{β:Type}(l:List β)(K:List β→R):fE l K=K l:=fL_eq (fun _ _=>rfl) l K
def stp(st:St)(dst:Option Tmp)(s:S)(u:Option (Nat×B))(K:St→R):R:=
 fS 8 s fun s=>fE (putx st.env dst s) fun env=>match u with
  |none=>K ⟨env,st.t⟩
  |some (k,b)=>fN k fun k=>fK b fun b=>fE (tputX st.t k b) fun t=>K ⟨env,t⟩
theorem stp_eq(st:St)(dst:Option Tmp)(s:S)(u:Option (Nat×B))(K:St→R):stp st dst s u K=K ⟨putx st.env dst s,tupX st.t u⟩:=by
 unfold stp
 rw [fS_eq,fE_eq]
 split
 ·rfl
 ·rw [fN_eq,fK_eq,fE_eq];rfl
def fSt(st:St)(K:St→R):R:=fE st.env fun env=>fE st.t fun t=>K ⟨env,t⟩
theorem fSt_eq(st:St)(K:St→R):fSt st K=K st:=by unfold fSt;rw [fE_eq,fE_eq]
def evOut(o:Out)(Kv:S→Option (Nat×B)→R):R:=
 match o with
 | .fail=>none
 | .val s u=>Kv s u
 | .side b s u=>match b with|true=>Kv s u|false=>none
 | .idx cells e xs n=>match n with
  | .ofNat m=>match uniB cells xs with
   |true=>match lkO xs m with|some x=>Kv (.d (.p 0 x.cells)) none|none=>none
   |false=>none
  | .negSucc _=>none
 | .rld ty agg cells size xs off=>match Nat.blt 0 size with
  |true=>match uniB size xs with
   |true=>match lkO xs (off/size) with
    |some x=>match partZ agg cells x.cells (off%size) with|some d=>Kv (.d d) none|none=>none
    |none=>none
   |false=>none
  |false=>none
 | .rst cells k v e size bytes xs off d=>match Nat.blt 0 size with
  |true=>match uniB size xs with
   |true=>match Nat.beq (len' d.cells) cells with
    |true=>match setElem size xs off d.cells with|some xs'=>Kv .top (some (k,.row v e size bytes xs'))|none=>none
    |false=>none
   |false=>none
  |false=>none
 | .pick z a b=>match z with|true=>Kv a none|false=>Kv b none
 | .boo b=>fB b fun b=>Kv (.d (.v (.bool b))) none
def nlD:Nat→D→D
 |0,d=>d
 |n+1,d=>match d with
  | .v (.slice none 0 0)=> .l []
  | .a cs=> .a (mapX (nlD n) cs)
  | .l cs=> .l (mapX (nlD n) cs)
  | .p off cs=> .p off (mapX (nlD n) cs)
  | .f g cs=> .f g (mapX (nlD n) cs)
  |d=>d
structure Ev where
 P:Program
 T:Tb
 fns:List Func
 mu:FuncId→Tmp→Bool
 orc:FuncId→List D→Option (List D)
 own:TypeId→Bool
def resO(T:Tb)(st:St):List ResultVar→R
 | [] =>some []
 |r::rs=>match resX T st r with|some d=>(match resO T st rs with|some ds=>some (d::ds)|none=>none)|none=>none
def bodyOf(E:Ev)(g:FuncId):Option (Func×Code):=match lkO E.fns g with
 |some fn=>match fn.body with|some c=>(match fn.name== "runtime.NumGoroutine" with|true=>none|false=>some (fn,c))|none=>none
 |none=>none
section
variable (E:Ev) (C:(Tmp→Bool)→Code→St→(Ex→St→R)→R) (mu:Tmp→Bool)
def evF(g:FuncId)(ds0:List D):R:=fL (fD 8) (mapX (nlD 8) ds0) fun ds=>match E.orc g ds with
 |some r=>some r
 |none=>match bodyOf E g with
  |some (fn,c)=>C (E.mu g) c (startX ds fn.ntmps) fun e st=>match e with| .exit _=>none|_=>resO E.T st fn.results.toList
  |none=>none
def inlO(rs:List ResultVar)(k:Nat)(dst:Option Tmp)(K:St→R)(e:Ex)(st:St):R:=
 match e with
 | .exit _=>none
 |_=>match resSL E.T st rs with
  |some ss=>match tatX st.t k with
   | .ghost cs=>fSt ⟨putx cs dst (tupS ss),tputX st.t k .dead⟩ K
   |_=>none
  |none=>none
def rngO(k:Nat)(K:Ex→St→R)(e:Ex)(st:St):R:=
 match e with
 | .exit _=>none
 |_=>match tatX st.t k with
  | .loop s pend _ _ _ cs=>match s,pend with
   | .ready,none=>fSt ⟨cs,tputX st.t k .dead⟩ (K .normal)
   | .done,some (.exit i)=>fSt ⟨cs,tputX st.t k .dead⟩ (K (.exit i))
   | .done,some .ret=>fSt ⟨cs,tputX st.t k .dead⟩ (K .ret)
   |_,_=>none
  |_=>none
def asgO(k:Nat)(K:St→R)(e:Ex)(st:St):R:=
 match e with
 | .normal=>match tatX st.t k with
  | .loop s pend ps asg body cs=>match s with
   | .ready=>fSt ⟨st.env,tputX st.t k (.loop .busy pend ps asg body cs)⟩ K
   |_=>none
  |_=>none
 |_=>none
def yldO(k kk:Nat)(dst:Option Tmp)(K:St→R)(e:Ex)(st:St):R:=
 match tatX st.t kk with
 | .ghost env=>match tatX st.t k with
  | .loop s p ps asg body cs=>match s with
   | .busy=>match e with
    | .normal=>fSt ⟨putx env dst tt',tputX (tputX st.t k (.loop .ready none ps asg body cs)) kk .dead⟩ K
    | .exit i=>fSt ⟨putx env dst ff',tputX (tputX st.t k (.loop .done (some (.exit i)) ps asg body cs)) kk .dead⟩ K
    | .ret=>fSt ⟨putx env dst ff',tputX (tputX st.t k (.loop .done (some .ret) ps asg body cs)) kk .dead⟩ K
   |_=>none
  |_=>none
 |_=>none
def evInl(f:S)(args:List Operand)(dst:Option Tmp)(st:St)(K:St→R):R:=match calleeOf f with
 |some (g,cap)=>match bodyOf E g with
  |some (fn,c)=>fN (len' st.t) fun kk=>fSt ⟨appX' (appX' (mapX (evx st.env) args) cap) (tops (fn.ntmps-(len' args+len' cap))),tputX st.t kk (.ghost st.env)⟩ fun st'=>C (E.mu g) c st' (inlO E fn.results.toList kk dst K)
  |none=>none
 |none=>none
def evCall(f:Operand)(args:List Operand)(dst:Option Tmp)(st:St)(K:St→R):R:=
 match evx st.env f with
 | .own k v=>match v with
  |0=>match tatX st.t k with
   | .loop s pend ps asg body cs=>match s with
    | .ready=>match Nat.beq (len' args) ps.size with
     |true=>fN (len' st.t) fun kk=>fSt ⟨zipS ps.toList (mapX (evx st.env) args) cs,tputX st.t kk (.ghost st.env)⟩ fun st'=>
       C (fun _=>false) asg st' (asgO k fun st2=>C (fun _=>false) body st2 (yldO k kk dst K))
     |false=>none
    |_=>none
   |_=>none
  |_=>none
 |fv=>match fv,allD (args.map (evx st.env)) with
  | .d (.f g cap),some ds=>match evF E C g (ds++cap) with
   |some res=>stp st dst (resS (mapX (nlD 8) res)) none K
   |none=>evInl E C fv args dst st K
  |_,_=>evInl E C fv args dst st K
def evOpP(o:Oper)(st:St)(K:Look→St→R):R:=
 fN (len' st.t) fun k0=>evOut (opX E.T k0 (muOf mu o.dst) (evx st.env) (tatX st.t) o.type o.op) fun s u=>stp st o.dst s u (K ⟨tchOp (evx st.env) o.op,u.map (·.1)⟩)
def evSl3(xt:TypeId)(x lo hi m:Operand)(o:Oper)(st:St)(K:St→R):R:=
 match evx st.env x,evx st.env lo,evx st.env hi,evx st.env m with
 | .d (.l xs),.d (.v (.int .i64 (.ofNat l))),.d (.v (.int .i64 (.ofNat h))),.d (.v (.int .i64 (.ofNat m)))=>match tinfo E.T xt with
  |some i=>match i.elem with
   |some e=>match tinfo E.T e with
    |some j=>match Nat.blt 0 j.cells&&(Nat.ble l h&&(Nat.ble h m&&(Nat.ble m (len' xs)&&uniB j.cells xs))) with
     |true=>stp st o.dst (.d (.l (subL xs l h))) none K
     |false=>none
    |none=>none
   |none=>none
  |none=>none
 |_,_,_,_=>none
def evOp(o:Oper)(st:St)(K:St→R):R:=match o.op with
 | .slice xt x (some lo) (some hi) (some m)=>evSl3 E xt x lo hi m o st K
 | .call {callee:= .value f,args,.. }=>evCall E C f args.toList o.dst st K
 |_=>evOpP E mu o st fun _=>K
def evDr(o:Oper)(st:St)(K:Look→St→R):R:=match o.op with
 | .call {callee:= .value f,args,.. }=>match evx st.env f,allD (args.toList.map (evx st.env)) with
  | .d (.f g cap),some ds=>match evF E C g (ds++cap) with
   |some res=>stp st o.dst (resS (mapX (nlD 8) res)) none (K ⟨[],none⟩)
   |none=>none
  |_,_=>none
 |_=>evOpP E mu o st K
def evG{α:Type}(ops:List Oper)(o:Oper)(st:St)(run:R)(skip:R):R:=match o.guard with
 |none=>run
 |some (j,want)=>match dstOf ops j with
  |some d=>match lk st.env d with
   | .d (.v (.bool b))=>match b,want with
    |true,true=>run
    |false,false=>run
    |_,_=>skip
   | .tup [] =>skip
   |_=>none
  |none=>none
def evOps(ops:List Oper):List Oper→St→(St→R)→R
 | [],st,K=>K st
 |o::rest,st,K=>evG (α:=D) ops o st (evOp E C mu o st fun st'=>evOps ops rest st' K) (stp st o.dst (.tup []) none fun st'=>evOps ops rest st' K)
def evDrs(ops:List Oper):List Oper→List Look→St→(List Look→St→R)→R
 | [],acc,st,K=>K acc st
 |o::rest,acc,st,K=>evG (α:=D) ops o st (evDr E C mu o st fun l st'=>evDrs ops rest (acc++ [l]) st' K) (stp st o.dst (.tup []) none fun st'=>evDrs ops rest (acc++ [⟨[],none⟩]) st' K)
def ylds(st:St)(ops:List Oper):List Oper→Nat→Option (Nat×Oper×Operand×List Operand)
 | [],_=>none
 |o::rest,p=>match o.op,o.guard with
  | .call {callee:= .value (.tmp d),args,.. },none=>
   match ops.any fun q=>match q.dst,q.op with
    |some d',.move (.tmp e)=>match Nat.beq d d' with|true=>(match lk st.env e with| .own _ _=>true|_=>false)|false=>false
    |_,_=>false with
   |true=>some (p,o,.tmp d,args.toList)
   |false=>ylds st ops rest (p+1)
  |_,_=>ylds st ops rest (p+1)
def guardB(b:Bool)(k:R):R:=match b with|true=>k|false=>none
def evRd(ops:Array Oper)(st:St)(K:St→R):R:=match ylds st ops.toList ops.toList 0 with
 |none=>evDrs E C mu ops.toList ops.toList [] st fun ls st'=>guardB (safeB ops ls) (K st')
 |some (p,y,f,args)=>guardB (midB ops p) (evDrs E C mu ops.toList (ops.toList.take p) [] st fun ls1 st1=>guardB (safeB ops (ls1++repL (ops.size-p)))
   (evCall E C f args y.dst st1 fun st2=>evDrs E C mu ops.toList (ops.toList.drop (p+1)) (repL (p+1)) st2 fun ls3 st3=>guardB (safeB ops ls3) (K st3)))
end
def allB(mu:Tmp→Bool):List Oper→Tmp→Bool
 | [],t=>mu t
 |o::rest,t=>match o.op,o.dst with
  | .alloc _,some d=>match Nat.beq d t with|true=>true|false=>allB mu rest t
  |_,_=>allB mu rest t
def nilF(T:Tb)(k:Nat)(cs:List S):List (Nat×TypeId)→St→(St→R)→R
 | [],st,K=>K st
 |(off,ty)::fs,st,K=>match lk cs off with
  | .d (.v (.slice none 0 0))=>match tinfo T ty with
   |some i=>match i.elem with
    |some e=>match tinfo T e with
     |some j=>fSt (ownSt k off e j.cells j.bytes st) fun st=>nilF T k cs fs st K
     |none=>nilF T k cs fs st K
    |none=>nilF T k cs fs st K
   |none=>nilF T k cs fs st K
  |_=>nilF T k cs fs st K
def nils(T:Tb)(ow:TypeId→Bool):List B→Nat→St→(St→R)→R
 | [],_,st,K=>K st
 |b::bs,k,st,K=>match b with
  | .box ty cs=>match tinfo T ty with
   |some i=>match i.elem with
    |some _=>nilF T k cs [(0,ty)] st fun st=>nils T ow bs (k+1) st K
    |none=>match ow ty with
     |true=>nilF T k cs i.fields st fun st=>nils T ow bs (k+1) st K
     |false=>nils T ow bs (k+1) st K
   |none=>nils T ow bs (k+1) st K
  |_=>nils T ow bs (k+1) st K
def blkO(id:Nat)(K:Ex→St→R)(e:Ex)(st:St):R:=match e with
 | .exit i=>match Nat.beq i id with|true=>K .normal st|false=>K (.exit i) st
 | .normal=>K .normal st
 | .ret=>K .ret st
def evC(E:Ev):Nat→(Tmp→Bool)→Code→St→(Ex→St→R)→R
 |0,_,_,_,_=>none
 |n+1,mu,c,st,K=>match c with
  | .skip=>K .normal st
  | .exit i=>K (.exit i) st
  | .ret=>K .ret st
  | .seq a b=>evC E n mu a st fun e st'=>match e with
   | .normal=>evC E n mu b st' K
   | .exit i=>K (.exit i) st'
   | .ret=>K .ret st'
  | .block id b=>evC E n mu b st (blkO id K)
  | .cond c a b=>match evx st.env c with
   | .d (.v (.bool z))=>match z with|true=>evC E n mu a st K|false=>evC E n mu b st K
   |_=>none
  | .loop b=>evC E n mu b st fun e st'=>match e with
   | .normal=>evC E n mu (.loop b) st' K
   | .exit i=>K (.exit i) st'
   | .ret=>K .ret st'
  | .region id ops draw=>nils E.T E.own st.t 0 st fun st=>match draw with
   |true=>evRd E (evC E n) (allB mu ops.toList) ops st (K .normal)
   |false=>evOps E (evC E n) (allB mu ops.toList) ops.toList ops.toList st (K .normal)
  | .rangeFunc f ps asg body=>match calleeOf (evx st.env f) with
   |some (g,cap)=>match bodyOf E g with
    |some (fn,c)=>match fn.results.toList with
     | [] =>fN (len' st.t) fun k=>fSt ⟨.own k 0::appX' cap (tops (fn.ntmps-(1+len' cap))),tputX st.t k (.loop .ready none ps asg body st.env)⟩ fun st'=>evC E n (E.mu g) c st' (rngO k K)
     |_=>none
    |none=>none
   |none=>none
  |_=>none
end Go.Nv
end
section
namespace Go.Nv
open Go.RowKit
theorem evOut_sound{o:Out}{Kv:S→Option (Nat×B)→R}{r:List D}(h:evOut o Kv=some r):outK o (fun s u=>Kv s u=some r):=by
 unfold evOut at h
 split at h
 ·simp at h
 ·exact Eq.mpr (frcS_eq _ (fun s=>Kv s _=some r)) h
 ·split at h
  ·unfold outK Sd;exact ⟨rfl,h⟩
  ·simp at h
 ·split at h
  ·split at h
   ·split at h
    ·rename_i _ hu _ x hx
     unfold outK IdxG
     rw [lkO_eq] at hx
     exact ⟨x,hx,Int.natCast_nonneg _,uniB_eq.1 hu,h⟩
    ·simp at h
   ·simp at h
  ·simp at h
 ·split at h
  ·split at h
   ·split at h
    ·split at h
     ·rename_i ty agg cells size xs off _ hs _ hu _ x hx _ d hd
      unfold outK RldG
      rw [lkO_eq] at hx
      rw [Nat.blt_eq] at hs
      exact ⟨off/size,off%size,x,d,by rw [Nat.mul_comm];exact (Nat.div_add_mod off size).symm,Nat.mod_lt _ hs,hx,uniB_eq.1 hu,hd,h⟩
     ·simp at h
    ·simp at h
   ·simp at h
  ·simp at h
 ·split at h
  ·split at h
   ·split at h
    ·split at h
     ·rename_i _ hs _ hu _ hl _ xs' hx
      unfold outK RstG
      rw [Nat.blt_eq] at hs
      exact ⟨xs',hx,by rw [←len'_eq];exact Nat.eq_of_beq_eq_true hl,uniB_eq.1 hu,hs,h⟩
     ·simp at h
    ·simp at h
   ·simp at h
  ·simp at h
 ·split at h
  ·exact Eq.mpr (frcS_eq _ (fun s=>Kv s none=some r)) h
  ·exact Eq.mpr (frcS_eq _ (fun s=>Kv s none=some r)) h
 ·rw [fB_eq] at h
  show Kv (.d (.v (.bool (bz _)))) none=some r
  rw [bz_eq];exact h
def LeD(d d':D):Prop:= ∀(W:World) (ok:Nat→Prop) (v:Value),Den W ok d v→Den W ok d' v
theorem leD_l0:LeD (.v (.slice none 0 0)) (.l []):=fun W ok v h=>by cases h;exact .l0 (by simp) fun _=>rfl
def LeDs(cs cs':List D):Prop:=cs'.length=cs.length∧ ∀(i:Nat) (c c':D),cs[i]? =some c→cs'[i]? =some c'→LeD c c'
theorem LeDs.cells{W:World}{ok:Nat→Prop}{cs cs':List D}{us:List Value}(h:LeDs cs cs')(hd: ∀(i:Nat) (c:D) (u:Value),cs[i]? =some c→us[i]? =some u→Den W ok c u): ∀(i:Nat) (c:D) (u:Value),cs'[i]? =some c→us[i]? =some u→Den W ok c u:=by
 intro i c' u hc hu
 have hi:i<cs.length:=by rw [←h.1];exact (List.getElem?_eq_some_iff.1 hc).1
 have hx:cs[i]? =some cs[i] :=List.getElem?_eq_getElem hi
 exact h.2 i _ c' hx hc _ _ _ (hd i _ u hx hu)
theorem LeDs.append{xs xs' ys ys':List D}(h:LeDs xs xs')(k:LeDs ys ys'):LeDs (xs++ys) (xs'++ys'):=by
 refine ⟨by simp [h.1,k.1],fun i c c' hc hc'=> ?_⟩
 rw [List.getElem?_append] at hc hc'
 rw [h.1] at hc'
 split at hc
 ·rename_i hi;rw [if_pos hi] at hc';exact h.2 i c c' hc hc'
 ·rename_i hi;rw [if_neg hi] at hc';exact k.2 _ c c' hc hc'
def LeC(x x':D):Prop:=LeDs x.cells x'.cells
theorem leDs_map{f:D→D}(h: ∀d,LeD d (f d))(cs:List D):LeDs cs (mapX f cs):=by
 rw [mapX_eq]
 refine ⟨by simp,fun i c c' hc hc'=> ?_⟩
 rw [List.getElem?_map,hc] at hc'
 simp at hc';subst hc';exact h c
theorem leDs_flat{f:D→D}(h: ∀d,LeC d (f d)): ∀(cs:List D),LeDs (flat cs) (flat (mapX f cs))
 | [] =>⟨rfl,fun i c c' hc _=>by simp [flat] at hc⟩
 |x::xs=>by
  have:=(h x).append (leDs_flat h xs)
  simpa [flat,mapX] using this
theorem nlD_le: ∀(n:Nat) (d:D),LeD d (nlD n d)∧LeC d (nlD n d)
 |0,d=>⟨fun _ _ _ h=>h,rfl,fun i c c' hc hc'=>by
   have hc2:d.cells[i]? =some c':=hc'
   rw [hc] at hc2;simp at hc2;subst hc2;exact fun _ _ _ h=>h⟩
 |n+1,d=>by
  have ih:=nlD_le n
  have same: ∀d:D,LeD d d:=fun d _ _ _ h=>h
  have one: ∀{x y:D},LeD x y→LeDs [x] [y] :=fun {x y} h=>⟨rfl,fun i c c' hc hc'=>by
   cases i with
   |zero=>simp at hc hc';subst hc;subst hc';exact h
   |succ i=>simp at hc⟩
  unfold nlD
  split
  ·exact ⟨leD_l0,one leD_l0⟩
  ·rename_i cs
   have hm:=leDs_map (fun d=>(ih d).1) cs
   refine ⟨fun W ok v h=> ?_,hm⟩
   cases h with
   |a h1 h2 h3=>exact .a (by rw [hm.1];exact h1) (hm.cells h2) h3
  ·rename_i cs
   have hf:=leDs_flat (fun d=>(ih d).2) cs
   have hl:(mapX (nlD n) cs).length=cs.length:=by rw [mapX_eq];simp
   have key:LeD (.l cs) (.l (mapX (nlD n) cs)):=fun W ok v h=>by
    cases h with
    |l0 h1 h2=>exact .l0 h1 h2
    |l h1 h2 h3 h4 h5 h6 h7 h8=>rw [←hl];exact .l h1 (by rw [hf.1];exact h2) h3 h4 (hf.cells h5) h6 (by rw [hl];exact h7) h8
   exact ⟨key,one key⟩
  ·rename_i off cs
   have hm:=leDs_map (fun d=>(ih d).1) cs
   have key:LeD (.p off cs) (.p off (mapX (nlD n) cs)):=fun W ok v h=>by
    cases h with
    |p h1 h2 h3 h4 h5 h6=>exact .p h1 (by rw [hm.1];exact h2) h3 h4 (hm.cells h5) h6
   exact ⟨key,one key⟩
  ·rename_i g cs
   have hm:=leDs_map (fun d=>(ih d).1) cs
   have key:LeD (.f g cs) (.f g (mapX (nlD n) cs)):=fun W ok v h=>by
    cases h with
    |f h1 h2=>exact .f (by rw [hm.1];exact h1) (hm.cells h2)
   exact ⟨key,one key⟩
  ·refine ⟨same _,rfl,fun i c c' hc hc'=> ?_⟩
   rw [hc] at hc';simp at hc';subst hc';exact same _
theorem den_nl{W:World}{ok:Nat→Prop}{ds:List D}{us:List Value}(h:DenL W ok ds us):DenL W ok (mapX (nlD 8) ds) us:=by
 have hm:=leDs_map (fun d=>(nlD_le 8 d).1) ds
 exact ⟨by rw [hm.1];exact h.1,hm.cells h.2⟩
theorem fun_nl{P:Program}{g:FuncId}{ds res:List D}(h:Fun P g (mapX (nlD 8) ds) res):Fun P g ds (mapX (nlD 8) res):=by
 refine ⟨h.1,fun w ok us hd=>(h.2 w ok us (den_nl hd)).mono fun e w' ⟨v,h1,h2,h3⟩=>⟨v,h1, ?_,h3⟩⟩
 match res,h2 with
 | [d],h2=>exact (nlD_le 8 d).1 _ _ _ h2
 | [],h2=>exact h2
 |d::d'::ds,h2=>
  obtain ⟨us,e1,e2⟩:=h2
  exact ⟨us,e1,den_nl e2⟩
end Go.Nv
end
section
namespace Go.Nv
open Go.RowKit
theorem body_sound{E:Ev}(hfn: ∀g fn,lkO E.fns g=some fn→E.P.funcs[g]? =some fn){g:FuncId}{fn:Func}{c:Code}(h:bodyOf E g=some (fn,c)):E.P.funcs[g]? =some fn∧fn.body=some c∧(fn.name== "runtime.NumGoroutine")=false:=by
 unfold bodyOf at h
 split at h
 ·rename_i fn' hf
  split at h
  ·rename_i c' hc
   split at h
   ·simp at h
   ·rename_i hn
    simp at h
    obtain ⟨rfl,rfl⟩:=h
    exact ⟨hfn _ _ hf,hc,hn⟩
  ·simp at h
 ·simp at h
section
variable {E:Ev} {C:(Tmp→Bool)→Code→St→(Ex→St→R)→R}
theorem inlO_sound{rs:List ResultVar}{k:Nat}{dst:Option Tmp}{K:St→R}{e:Ex}{st:St}{r:List D}(h:inlO E rs k dst K e st=some r):inlK E.T rs k dst (fun st=>K st=some r) e st:=by
 unfold inlO at h
 unfold inlK
 cases e with
 |exit i=>simp at h
 |normal=>
  simp only at h ⊢
  split at h
  ·split at h
   ·rw [fSt_eq] at h;(simp only [*,frc_eq] <;>first|done|exact h)
   ·simp at h
  ·simp at h
 |ret=>
  simp only at h ⊢
  split at h
  ·split at h
   ·rw [fSt_eq] at h;(simp only [*,frc_eq] <;>first|done|exact h)
   ·simp at h
  ·simp at h
theorem asgO_sound{k:Nat}{K:St→R}{e:Ex}{st:St}{r:List D}(h:asgO k K e st=some r):asgK k (fun st=>K st=some r) e st:=by
 unfold asgO at h
 unfold asgK
 cases e with
 |normal=>
  simp only at h ⊢
  split at h
  ·split at h
   ·rw [fSt_eq] at h;(simp only [*,frc_eq] <;>first|done|exact h)
   ·simp at h
  ·simp at h
 |exit i=>simp at h
 |ret=>simp at h
theorem yldO_sound{k kk:Nat}{dst:Option Tmp}{K:St→R}{e:Ex}{st:St}{r:List D}(h:yldO k kk dst K e st=some r):yldK k kk dst (fun st=>K st=some r) e st:=by
 unfold yldO at h
 unfold yldK
 split at h
 ·split at h
  ·split at h
   ·cases e<;>(simp only [fSt_eq] at h;simp only [*,frc_eq] <;>first|done|exact h)
   ·simp at h
  ·simp at h
 ·simp at h
theorem rngO_sound{k:Nat}{K:Ex→St→R}{e:Ex}{st:St}{r:List D}(h:rngO k K e st=some r):rngK k (fun e st=>K e st=some r) e st:=by
 unfold rngO at h
 unfold rngK
 cases e with
 |exit i=>simp at h
 |normal=>
  simp only at h ⊢
  split at h
  ·split at h<;>first|(rw [fSt_eq] at h;(simp only [*,frc_eq] <;>first|done|exact h))|simp at h
  ·simp at h
 |ret=>
  simp only at h ⊢
  split at h
  ·split at h<;>first|(rw [fSt_eq] at h;(simp only [*,frc_eq] <;>first|done|exact h))|simp at h
  ·simp at h
theorem eqDn_rfl: ∀(n:Nat) (x:D),eqDn n x x:=by
 intro n
 induction n with
 |zero=>intro x;exact rfl
 |succ n ih=>
  have hl: ∀xs:List D,eqLP (eqDn n) xs xs:=by
   intro xs
   induction xs with
   |nil=>trivial
   |cons x xs ihx=>exact ⟨ih x,ihx⟩
  have hv: ∀x:Value,eqVP x x:=by intro x;cases x<;>simp [eqVP]
  intro x
  cases x<;>simp_all [eqDn]
theorem resO_sound{T:Tb}{st:St}: ∀{rs:List ResultVar} {ds:List D},resO T st rs=some ds→resK T st rs ds
 | [],ds,h=>by simp [resO] at h;subst h;trivial
 |r::rs,ds,h=>by
  unfold resO at h
  split at h
  ·rename_i d hd
   split at h
   ·rename_i ds' hds
    simp at h;subst h
    refine ⟨?_,resO_sound hds⟩
    rw [hd];exact eqDn_rfl 4 d
   ·simp at h
  ·simp at h
theorem evF_sound(hm:E.P.follows .mixedOrders=true)(hT:TbOk E.P E.T)(hfn: ∀g fn,lkO E.fns g=some fn→E.P.funcs[g]? =some fn)(horc: ∀g ds res,E.orc g ds=some res→Fun E.P g ds res)
  (hC: ∀mu c st K r,C mu c st K=some r→Ok E.P c st fun e st'=>K e st'=some r) {g:FuncId} {ds res:List D} (h:evF E C g ds=some res):Fun E.P g ds (mapX (nlD 8) res):=by
 unfold evF at h
 rw [fL_eq (fD_eq 8)] at h
 refine fun_nl ?_
 split at h
 ·rename_i r' hr
  simp at h;subst h
  exact horc _ _ _ hr
 ·split at h
  ·rename_i fn c hb
   obtain ⟨h1,h2,h3⟩:=body_sound hfn hb
   refine fun_of_okX hm hT h1 h2 h3 ((hC _ _ _ _ _ h).mono fun e st' hk=> ?_)
   cases e with
   |exit i=>simp at hk
   |normal=>exact resO_sound hk
   |ret=>exact resO_sound hk
  ·simp at h
end
end Go.Nv
end
section
namespace Go.Nv
open Go.RowKit
section
variable {E:Ev} {C:(Tmp→Bool)→Code→St→(Ex→St→R)→R}
theorem evInl_sound(hm:E.P.follows .mixedOrders=true)(hT:TbOk E.P E.T)(hfn: ∀g fn,lkO E.fns g=some fn→E.P.funcs[g]? =some fn)
  (hC: ∀mu c st K r,C mu c st K=some r→Ok E.P c st fun e st'=>K e st'=some r) {f:Operand} {args:List Operand} {dst:Option Tmp} {st:St} {K:St→R} {r:List D} (h:evInl E C (evx st.env f) args dst st K=some r):
  CallK E.P f args dst st fun st'=>K st'=some r:=by
 unfold evInl at h
 split at h
 ·rename_i g cap hcal
  split at h
  ·rename_i fn c hb
   obtain ⟨h1,h2,h3⟩:=body_sound hfn hb
   rw [fN_eq,fSt_eq] at h
   exact call_inl_ok hm hT hcal h1 h2 h3 ((hC _ _ _ _ _ h).mono fun e st' hk=>inlO_sound hk)
  ·simp at h
 ·simp at h
theorem evCall_sound(hm:E.P.follows .mixedOrders=true)(hT:TbOk E.P E.T)(hfn: ∀g fn,lkO E.fns g=some fn→E.P.funcs[g]? =some fn)(horc: ∀g ds res,E.orc g ds=some res→Fun E.P g ds res)
  (hC: ∀mu c st K r,C mu c st K=some r→Ok E.P c st fun e st'=>K e st'=some r) {f:Operand} {args:List Operand} {dst:Option Tmp} {st:St} {K:St→R} {r:List D} (h:evCall E C f args dst st K=some r):
  CallK E.P f args dst st fun st'=>K st'=some r:=by
 have inl:=fun h=>evInl_sound (f:=f) (args:=args) (dst:=dst) (st:=st) (K:=K) (r:=r) hm hT hfn hC h
 unfold evCall at h
 split at h
 ·rename_i k v hf
  split at h
  ·split at h
   ·rename_i s pend ps asg body cs hk
    split at h
    ·split at h
     ·rename_i hl
      rw [fN_eq,fSt_eq] at h
      have hl':args.length=ps.size:=by rw [←len'_eq];exact Nat.eq_of_beq_eq_true hl
      exact call_yield_ok hf hk hl' ((hC _ _ _ _ _ h).mono fun e st' hk'=>asgK_mono (fun st2 h2=>(hC _ _ _ _ _ h2).mono fun e st' hk=>yldO_sound hk) e st' (asgO_sound hk'))
     ·simp at h
    ·simp at h
   ·simp at h
  ·simp at h
 ·split at h
  ·rename_i g cap ds hf hd
   split at h
   ·rename_i res hr
    rw [stp_eq] at h
    exact call_data hf hd (evF_sound hm hT hfn horc hC hr) h
   ·exact inl h
  ·exact inl h
end
end Go.Nv
end
section
namespace Go.Nv
open Go.RowKit
def Sl3Ok(E:Ev):Prop:= ∀(xt:TypeId) (x lo hi m:Operand) (o:Oper) (st:St) (K:St→R) (r:List D),o.op= .slice xt x (some lo) (some hi) (some m)→evSl3 E xt x lo hi m o st K=some r→OkOp E.P o st fun st'=>K st'=some r
theorem outK_mono{o:Out}{K K':S→Option (Nat×B)→Prop}(hk: ∀s u,K s u→K' s u)(h:outK o K):outK o K':=by
 cases o with
 |fail=>exact h
 |val s u=>exact Eq.mpr (frcS_eq _ (fun s=>K' s u)) (hk _ _ (Eq.mp (frcS_eq _ (fun s=>K s u)) h))
 |side b s u=>
  unfold outK Sd at*
  exact ⟨h.1,hk _ _ h.2⟩
 |idx cells e xs n=>
  unfold outK IdxG at*
  obtain ⟨x,a,b,c,d⟩:=h
  exact ⟨x,a,b,c,hk _ _ d⟩
 |rld ty agg cells size xs off=>
  unfold outK RldG at*
  obtain ⟨i,r,x,d,a,b,c,e,f,g⟩:=h
  exact ⟨i,r,x,d,a,b,c,e,f,hk _ _ g⟩
 |rst cells k v e size bytes xs off d=>
  unfold outK RstG at*
  obtain ⟨xs',a,b,c,e,f⟩:=h
  exact ⟨xs',a,b,c,e,hk _ _ f⟩
 |pick z a b=>
  cases z with
  |true=>exact Eq.mpr (frcS_eq _ (fun s=>K' s none)) (hk _ _ (Eq.mp (frcS_eq _ (fun s=>K s none)) h))
  |false=>exact Eq.mpr (frcS_eq _ (fun s=>K' s none)) (hk _ _ (Eq.mp (frcS_eq _ (fun s=>K s none)) h))
 |boo b=>exact hk _ _ h
theorem goDr_mono{P:Program}{T:Tb}{mu:Tmp→Bool}{o:Oper}{st:St}{K K':Look→St→Prop}(hk: ∀l st,K l st→K' l st)(h:goDr P T mu o st K):goDr P T mu o st K':=by
 unfold goDr at h ⊢
 split at h
 ·split at h
  ·skip
   unfold CallV at h ⊢
   rcases h with ⟨res,a,b⟩|⟨e,size,bytes,res,a,b⟩
   ·exact .inl ⟨res,a,by rw [frc_eq] at b ⊢;exact hk _ _ b⟩
   ·exact .inr ⟨e,size,bytes,res,a,by rw [frc_eq] at b ⊢;exact hk _ _ b⟩
  ·exact h.elim
 ·rw [litN_eq] at h ⊢
  exact outK_mono (fun s u h=>by rw [frc_eq] at h ⊢;exact hk _ _ h) h
section
variable {E:Ev} {C:(Tmp→Bool)→Code→St→(Ex→St→R)→R} {mu:Tmp→Bool}
theorem evOpP_out{o:Oper}{st:St}{K:Look→St→R}{r:List D}(h:evOpP E mu o st K=some r):
  outK (opX E.T (len' st.t) (muOf mu o.dst) (evx st.env) (tatX st.t) o.type o.op) (fun s u=>K ⟨tchOp (evx st.env) o.op,u.map (·.1)⟩ ⟨putx st.env o.dst s,tupX st.t u⟩=some r):=by
 unfold evOpP at h
 rw [fN_eq] at h
 simp only [stp_eq] at h
 exact evOut_sound h
theorem evOp_sound(hsl:Sl3Ok E)(hm:E.P.follows .mixedOrders=true)(hT:TbOk E.P E.T)(hfn: ∀g fn,lkO E.fns g=some fn→E.P.funcs[g]? =some fn)(horc: ∀g ds res,E.orc g ds=some res→Fun E.P g ds res)
  (hC: ∀mu c st K r,C mu c st K=some r→Ok E.P c st fun e st'=>K e st'=some r) {o:Oper} {st:St} {K:St→R} {r:List D} (h:evOp E C mu o st K=some r):OkOp E.P o st fun st'=>K st'=some r:=by
 unfold evOp at h
 split at h
 ·rename_i xt x lo hi m hop
  exact hsl xt x lo hi m o st K r hop h
 ·rename_i f args ts hop
  refine goOp_sound (T:=E.T) (mu:=mu) hT ?_
  unfold goOp
  rw [hop]
  exact evCall_sound hm hT hfn horc hC h
 ·rename_i h1 h2
  refine goOp_sound (T:=E.T) (mu:=mu) hT ?_
  have:=evOpP_out h
  unfold goOp
  split
  ·rename_i f args ts hop;exact absurd hop (h2 _ _ _)
  ·rw [litN_eq];simp only [frc_eq];exact this
theorem evG_cases{ops:List Oper}{o:Oper}{st:St}{a b:R}{r:List D}(h:evG (α:=D) ops o st a b=some r):
  (o.guard=none∧a=some r)∨(∃j want d z,o.guard=some (j,want)∧dstOf ops j=some d∧lk st.env d= .d (.v (.bool z))∧((z=want∧a=some r)∨(z≠want∧b=some r)))∨
  (∃j want d,o.guard=some (j,want)∧dstOf ops j=some d∧lk st.env d= .tup [] ∧b=some r):=by
 unfold evG at h
 split at h
 ·rename_i hg;exact .inl ⟨hg,h⟩
 ·rename_i j want hg
  split at h
  ·rename_i d hd
   split at h
   ·rename_i z hz
    refine .inr (.inl ⟨j,want,d,z,hg,hd,hz, ?_⟩)
    cases z<;>cases want<;>simp at h ⊢ <;>exact h
   ·rename_i hz;exact .inr (.inr ⟨j,want,d,hg,hd,hz,h⟩)
   ·simp at h
  ·simp at h
theorem evDr_sound(hm:E.P.follows .mixedOrders=true)(hT:TbOk E.P E.T)(hfn: ∀g fn,lkO E.fns g=some fn→E.P.funcs[g]? =some fn)(horc: ∀g ds res,E.orc g ds=some res→Fun E.P g ds res)
  (hC: ∀mu c st K r,C mu c st K=some r→Ok E.P c st fun e st'=>K e st'=some r) {o:Oper} {st:St} {K:Look→St→R} {r:List D} (h:evDr E C mu o st K=some r):goDr E.P E.T mu o st fun l st'=>K l st'=some r:=by
 unfold evDr at h
 unfold goDr
 split at h
 ·rename_i f args ts hop
  rw [hop]
  simp only
  split at h
  ·rename_i g cap ds hf hd
   split at h
   ·rename_i res hr
    rw [stp_eq] at h
    simp only [hf,hd]
    unfold CallV
    exact .inl ⟨_,evF_sound hm hT hfn horc hC hr,Eq.mpr (frc_eq _ _) h⟩
   ·simp at h
  ·simp at h
 ·rename_i h2
  have:=evOpP_out h
  split
  ·rename_i f args ts hop;exact absurd hop (h2 _ _ _)
  ·rw [litN_eq];simp only [frc_eq];exact this
theorem evDrs_sound(hm:E.P.follows .mixedOrders=true)(hT:TbOk E.P E.T)(hfn: ∀g fn,lkO E.fns g=some fn→E.P.funcs[g]? =some fn)(horc: ∀g ds res,E.orc g ds=some res→Fun E.P g ds res)
  (hC: ∀mu c st K r,C mu c st K=some r→Ok E.P c st fun e st'=>K e st'=some r) {ops:List Oper}: ∀(l:List Oper) (acc:List Look) {st:St} {K:List Look→St→R} {r:List D},evDrs E C mu ops l acc st K=some r→goDrs E.P E.T mu ops l acc st fun ls st'=>K ls st'=some r
 | [],acc,st,K,r,h=>h
 |o::l,acc,st,K,r,h=>by
  unfold evDrs at h
  unfold goDrs gdr
  have mono: ∀{K K':Look→St→Prop},(∀l st,K l st→K' l st)→goDr E.P E.T mu o st K→goDr E.P E.T mu o st K':=fun hk hv=>goDr_mono hk hv
  have run: ∀h:evDr E C mu o st (fun l' st'=>evDrs E C mu ops l (acc++ [l']) st' K)=some r,goDr E.P E.T mu o st fun l' st'=>goDrs E.P E.T mu ops l (acc++ [l']) st' fun ls st'=>K ls st'=some r:=
   fun h=>mono (fun l' st' h'=>evDrs_sound hm hT hfn horc hC l _ h') (evDr_sound hm hT hfn horc hC h)
  rcases evG_cases h with ⟨hg,ha⟩|⟨j,want,d,z,hg,hd,hz,hh⟩|⟨j,want,d,hg,hd,hz,hb⟩
  ·simp only [hg];exact run ha
  ·simp only [hg,hd,hz]
   have e1:st1 st.env d (.d (.v (.bool z)))=st.env:=st1_id hz (by simp)
   cases z with
   |true=>
    simp only [cnd,show tt'=S.d (.v (.bool true)) from rfl,e1,frc_eq]
    rcases hh with ⟨rfl,ha⟩|⟨hne,hb⟩
    ·exact run ha
    ·cases want with
     |true=>exact absurd rfl hne
     |false=>rw [stp_eq] at hb;exact evDrs_sound hm hT hfn horc hC l _ hb
   |false=>
    simp only [cnd,show ff'=S.d (.v (.bool false)) from rfl,e1,frc_eq]
    rcases hh with ⟨rfl,ha⟩|⟨hne,hb⟩
    ·exact run ha
    ·cases want with
     |false=>exact absurd rfl hne
     |true=>rw [stp_eq] at hb;exact evDrs_sound hm hT hfn horc hC l _ hb
  ·simp only [hg,hd,hz,frc_eq]
   rw [stp_eq] at hb;exact evDrs_sound hm hT hfn horc hC l _ hb
end
end Go.Nv
end
section
namespace Go.Nv
open Go.RowKit
theorem run_bounds3{P:Program}{W:World}{len cap l h m:Nat}(h1:l≤h)(h2:h≤m)(h3:m≤cap):
  (Instr.sliceBounds true len cap (some (.int .i64 (l:Int))) (some (.int .i64 (h:Int))) (some (.int .i64 (m:Int)))).run P W= .ok (l,h,m) W:=by
 have hb: ∀(n y:Nat) (code:BoundsCode),n≤y→(Instr.sliceBound (.int .i64 (n:Int)) y code).run P W= .ok n W:=by
  intro n y code g1
  have g2:(n:Int)≤(y:Int):=by omega
  simp [Instr.sliceBound,asIntOf,g2]
 unfold Instr.sliceBounds
 simp [hb m cap _ h3,hb h m _ h2,hb l h _ h1]
theorem sl3_ok{E:Ev}(hT:TbOk E.P E.T):Sl3Ok E:=by
 intro xt x lo hi m o st K r hop hv
 unfold evSl3 at hv
 split at hv
 ·rename_i xs l h mm e1 e2 e3 e4
  split at hv
  ·rename_i i hi'
   split at hv
   ·rename_i ee hee
    split at hv
    ·rename_i j hj
     split at hv
     ·rename_i ht
      simp only [Bool.and_eq_true] at ht
      obtain ⟨t1,t2,t3,t4,t5⟩:=ht
      rw [Nat.blt_eq] at t1
      rw [Nat.ble_eq] at t2 t3 t4
      rw [len'_eq] at t4
      rw [uniB_eq] at t5
      rw [stp_eq,putx_eq,tupX_eq] at hv
      have het:elemT E.P xt=some ee:=by
       rcases (hT _ _ hi').elem with h0|h0
       ·rw [h0] at hee;simp at hee
       ·rw [h0,hee]
      have hcl:=(hT _ _ hj).cells
      rw [←hcl] at t1 t5
      intro n old bs w0 a W ι Kw Q hr hK
      have hxx:=hr.ev x
      have hx2:=hr.ev lo
      have hx3:=hr.ev hi
      have hx4:=hr.ev m
      rw [evx_eq] at e1 e2 e3 e4
      rw [e1] at hxx
      rw [e2] at hx2
      rw [e3] at hx3
      rw [e4] at hx4
      refine wpIn_of_opOk hr (val:= .d (.l (subL xs l h))) (upd:=none) ?_ (by intro c hc;rw [hop] at hc;cases hc) fun a' W' ι' _ hrel=>hK _ _ _ ι' hv hrel
      obtain ⟨A,cap,hvv,hcap,hcm,hAn,hrow⟩:=sd_l hxx
      have hut:=elemT_some het
      have v2:=(sd_v hx2).1
      have v3:=(sd_v hx3).1
      have v4:=(sd_v hx4).1
      have hb:=run_bounds3 (P:=E.P) (W:=W) (len:=xs.length) (cap:=cap) t2 t3 (by omega)
      have hrun:(execOp a.eval o).run E.P W= .ok (.value (.slice (if mm=l then A else A.map (·.add (l*E.P.cellsOf ee))) (h-l) (mm-l))) W:=by
       simp [execOp,hop,Instr.sliceAt,Instr.slice,underlying,hut,hvv,v2,v3,v4,hb,run_sizeOf_ne (Nat.ne_of_gt t1)]
      refine OpOk.pure hr.tok hrun ?_
      have hlen:(subL xs l h).length=h-l:=by simp [subL];omega
      by_cases hz:h-l=0
      ·have e0:subL xs l h= [] :=List.eq_nil_of_length_eq_zero (by omega)
       rw [e0,hz]
       refine .d (.l0 (by omega) fun hn=> ?_)
       split at hn
       ·omega
       ·have:=hAn (by simpa using hn);omega
      ·rw [←hlen]
       have hne:flat xs≠ [] :=by
        intro hn
        have h2:=flat_uni t5
        rw [hn] at h2
        have:0<xs.length*E.P.cellsOf ee:=Nat.mul_pos (by omega) t1
        simp at h2;omega
       obtain ⟨b,off,us,rfl,hne',hok,hc,hd,h1'⟩:=hrow hne
       rw [if_neg (by omega)]
       simp only [Option.map_some,add_none]
       have hut2:Uni (E.P.cellsOf ee) (xs.take h):=fun y hy=>t5 y (List.mem_of_mem_take hy)
       have e1':flat (subL xs l h)=((flat xs).take (h*E.P.cellsOf ee)).drop (l*E.P.cellsOf ee):=by unfold subL;rw [flat_drop hut2,flat_take t5]
       have e2':=(hd.take (h*E.P.cellsOf ee)).drop (l*E.P.cellsOf ee)
       rw [←e1'] at e2'
       have hfl:=flat_uni (size:=E.P.cellsOf ee) (xs:=subL xs l h) (fun y hy=>hut2 y (List.mem_of_mem_drop hy))
       refine .d (.l ?_ e2'.1 hok ?_ e2'.2 ?_ (by omega) (by omega))
       ·intro hn
        have:=e2'.1
        rw [hn,hfl,hlen] at this
        have:0<(h-l)*E.P.cellsOf ee:=Nat.mul_pos (by omega) t1
        simp at*;omega
       ·intro i u hu'
        rw [List.getElem?_drop,List.getElem?_take] at hu'
        split at hu'
        ·have:=hc _ _ hu'
         rwa [show off+(l*E.P.cellsOf ee+i)=off+l*E.P.cellsOf ee+i from by omega] at this
        ·simp at hu'
       ·exact one_sub h1' fun u hu'=>List.mem_of_mem_take (List.mem_of_mem_drop hu')
     ·simp at hv
    ·simp at hv
   ·simp at hv
  ·simp at hv
 ·simp at hv
end Go.Nv
end
section
namespace Go.Nv
open Go.RowKit
section
variable {E:Ev} {C:(Tmp→Bool)→Code→St→(Ex→St→R)→R} {mu:Tmp→Bool}
theorem evOps_sound(hsl:Sl3Ok E)(hm:E.P.follows .mixedOrders=true)(hT:TbOk E.P E.T)(hfn: ∀g fn,lkO E.fns g=some fn→E.P.funcs[g]? =some fn)(horc: ∀g ds res,E.orc g ds=some res→Fun E.P g ds res)
  (hC: ∀mu c st K r,C mu c st K=some r→Ok E.P c st fun e st'=>K e st'=some r) {ops:Array Oper} {K:St→R} {r:List D} {n:Nat} {old bs:Nat→Prop} {w0:Ctx} {Q:Exit→Act→World→Prop}
  (hK: ∀st' a' W' ι',K st'=some r→Rel old bs w0 ι' st' a' W'→Q .normal a' W'):
  ∀(l:List Oper) (i:Nat) (st:St) (a:Act) (W:World) (ι:Nat→Value),ops.toList.drop i=l→evOps E C mu ops.toList l st K=some r→Rel old bs w0 ι st a W→wpOpsIn (FW w0.r) n E.P ops Q (List.range' i l.length) a W:=by
 intro l
 induction l with
 |nil=>intro i st a W ι _ hv h;exact hK _ _ _ _ hv h
 |cons o l ih=>
  intro i st a W ι hd hv h
  have hoi:ops[i]? =some o:=by
   have:(ops.toList.drop i)[0]? =some o:=by rw [hd];rfl
   simpa using this
  have hd':ops.toList.drop (i+1)=l:=by
   rw [←List.drop_drop,hd];rfl
  rw [List.length_cons,List.range'_succ]
  simp only [wpOpsIn,hoi]
  unfold evOps at hv
  have dst: ∀{j d},dstOf ops.toList j=some d→(ops[j]?).bind (·.dst)=some d:=by
   intro j d hd2
   unfold dstOf at hd2
   rw [lkO_eq,Array.getElem?_toList] at hd2
   split at hd2
   ·rename_i oo hoo;rw [hoo];exact hd2
   ·simp at hd2
  have run: ∀hr:evOp E C mu o st (fun st'=>evOps E C mu ops.toList l st' K)=some r,o.wpIn (FW w0.r) n E.P a W (fun a' W'=>wpOpsIn (FW w0.r) n E.P ops Q (List.range' (i+1) l.length) a' W') Q:=
   fun hr=>evOp_sound hsl hm hT hfn horc hC hr _ _ _ _ _ _ _ _ _ h fun st' a' W' ι' hk hrel=>ih (i+1) _ _ _ ι' hd' hk hrel
  have skip: ∀hb:stp st o.dst (.tup []) none (fun st'=>evOps E C mu ops.toList l st' K)=some r,wpOpsIn (FW w0.r) n E.P ops Q (List.range' (i+1) l.length) (a.put o.dst undef) W:=by
   intro hb
   rw [stp_eq,putx_eq] at hb
   have:=h.put (dst:=o.dst) (s:= .tup []) (v:=undef) (t:=st.t) (StepTo.refl h.tok) (sd_und _ _ _ _)
   exact ih (i+1) _ _ _ ι hd' hb this
  rcases evG_cases hv with ⟨hg,ha⟩|⟨j,want,d,z,hg,hd2,hz,hh⟩|⟨j,want,d,hg,hd2,hz,hb⟩
  ·rw [if_pos (by simp [Region.wanted,hg])]
   exact run ha
  ·have hj:=dst hd2
   have hsd:=h.ev (.tmp d)
   have hb':ev st.env (.tmp d)= .d (.v (.bool z)):=by rw [←evx_eq];exact hz
   rw [hb'] at hsd
   have hval:=(sd_v hsd).1
   have hy:yielded ops a.tmps j=some z:=by
    unfold yielded
    rw [hj]
    simp only [Option.bind_some]
    have:a.tmps.getD d undef= .bool z:=hval
    cases hq:a.tmps[d]? with
    |none=>rw [Array.getD_eq_getD_getElem?,hq] at this;simp [undef] at this
    |some q=>rw [Array.getD_eq_getD_getElem?,hq] at this;simp at this;rw [this]
   rcases hh with ⟨hbw,hgo⟩|⟨hbw,hgo⟩
   ·rw [if_pos (by simp [Region.wanted,hg,hy,hbw])]
    exact run hgo
   ·rw [if_neg (by simp [Region.wanted,hg,hy,hbw])]
    exact ⟨fun f _=>FW.fn _ f,skip hgo⟩
  ·have hj:=dst hd2
   have hsd:=h.ev (.tmp d)
   have hb':ev st.env (.tmp d)= .tup [] :=by rw [←evx_eq];exact hz
   rw [hb'] at hsd
   have hy:yielded ops a.tmps j=none:=yielded_und hj (und_sd hsd)
   rw [if_neg (by simp [Region.wanted,hg,hy])]
   exact ⟨fun f _=>FW.fn _ f,skip hb⟩
end
end Go.Nv
end
section
namespace Go.Nv
open Go.RowKit
theorem goDrs_mono{P:Program}{T:Tb}{mu:Tmp→Bool}{ops:List Oper}{K K':List Look→St→Prop}(hk: ∀ls st,K ls st→K' ls st): ∀{l:List Oper} (acc:List Look) (st:St),goDrs P T mu ops l acc st K→goDrs P T mu ops l acc st K'
 | [],acc,st,h=>hk _ _ h
 |o::l,acc,st,h=>by
  unfold goDrs gdr at h ⊢
  have run: ∀{st:St},goDr P T mu o st (fun l' st'=>goDrs P T mu ops l (acc++ [l']) st' K)→goDr P T mu o st (fun l' st'=>goDrs P T mu ops l (acc++ [l']) st' K'):=fun h=>goDr_mono (fun l' st' h'=>goDrs_mono hk _ _ h') h
  split at h
  ·exact run h
  ·rename_i j want hg
   split at h
   ·split at h
    ·rename_i b hb
     cases b<;>cases want<;>simp only [cnd,frc_eq] at h ⊢ <;>first|exact run h|exact goDrs_mono hk _ _ h
    ·rw [frc_eq] at h ⊢;exact goDrs_mono hk _ _ h
    ·exact h.elim
   ·exact h.elim
theorem callK_mono{P:Program}{f:Operand}{args:List Operand}{dst:Option Tmp}{st:St}{K K':St→Prop}(hk: ∀st,K st→K' st)(h:CallK P f args dst st K):CallK P f args dst st K':=by
 unfold CallK at*
 intro o ho hd n old bs w0 a W ι Kw Q hr hK
 exact h o ho hd n old bs w0 a W ι Kw Q hr fun st' a' W' ι' hk' hrel=>hK st' a' W' ι' (hk _ hk') hrel
theorem guardB_eq{b:Bool}{k:R}{r:List D}(h:guardB b k=some r):b=true∧k=some r:=by
 unfold guardB at h
 split at h
 ·exact ⟨rfl,h⟩
 ·simp at h
theorem ylds_get{st:St}{all:List Oper}: ∀(l:List Oper) (k:Nat) {p:Nat} {y:Oper} {f:Operand} {args:List Operand},(∀i o,l[i]? =some o→all[k+i]? =some o)→ylds st all l k=some (p,y,f,args)→
  all[p]? =some y∧y.guard=none∧ ∃ts,y.op= .call {callee:= .value f,args:=args.toArray,argTypes:=ts}
 | [],k,p,y,f,args,_,h=>by simp [ylds] at h
 |o::l,k,p,y,f,args,hl,h=>by
  have hl': ∀i o',l[i]? =some o'→all[k+1+i]? =some o':=fun i o' ho=>by
   have:=hl (i+1) o' (by simpa using ho)
   rwa [show k+1+i=k+(i+1) by omega]
  unfold ylds at h
  split at h
  ·rename_i d as ts hop hg
   split at h
   ·simp at h
    obtain ⟨rfl,rfl,rfl,rfl⟩:=h
    exact ⟨by simpa using hl 0 o rfl,hg,ts,by rw [hop]⟩
   ·exact ylds_get l (k+1) hl' h
  ·exact ylds_get l (k+1) hl' h
theorem nilF_sound{P:Program}{T:Tb}{k:Nat}{cs:List S}{c:Code}{Kp:Ex→St→Prop}{r:List D}{K:St→R}(hk: ∀st,K st=some r→Ok P c st Kp): ∀(fs:List (Nat×TypeId)) (st:St),nilF T k cs fs st K=some r→Ok P c st Kp
 | [],st,h=>hk _ h
 |(off,ty)::fs,st,h=>by
  unfold nilF at h
  split at h
  ·split at h
   ·split at h
    ·split at h
     ·rw [fSt_eq] at h
      exact (nilF_sound hk fs _ h).weak (weak_own _ _ _ _ _ st)
     ·exact nilF_sound hk fs _ h
    ·exact nilF_sound hk fs _ h
   ·exact nilF_sound hk fs _ h
  ·exact nilF_sound hk fs _ h
theorem nils_sound{P:Program}{T:Tb}{ow:TypeId→Bool}{c:Code}{Kp:Ex→St→Prop}{r:List D}{K:St→R}(hk: ∀st,K st=some r→Ok P c st Kp): ∀(t:List B) (k:Nat) (st:St),nils T ow t k st K=some r→Ok P c st Kp
 | [],k,st,h=>hk _ h
 |b::bs,k,st,h=>by
  have ih:=fun st h=>nils_sound (T:=T) (ow:=ow) hk bs (k+1) st h
  unfold nils at h
  split at h
  ·split at h
   ·split at h
    ·exact nilF_sound ih _ _ h
    ·split at h
     ·exact nilF_sound ih _ _ h
     ·exact ih _ h
   ·exact ih _ h
  ·exact ih _ h
theorem evC_sound{E:Ev}(hsl:Sl3Ok E)(hm:E.P.follows .mixedOrders=true)(hT:TbOk E.P E.T)(hfn: ∀g fn,lkO E.fns g=some fn→E.P.funcs[g]? =some fn)(horc: ∀g ds res,E.orc g ds=some res→Fun E.P g ds res):
  ∀(n:Nat) (mu:Tmp→Bool) (c:Code) (st:St) (K:Ex→St→R) (r:List D),evC E n mu c st K=some r→Ok E.P c st (fun e st'=>K e st'=some r)∧ ∀b,c= .loop b→okN' E.P b n st fun e st'=>K e st'=some r:=by
 intro n
 induction n with
 |zero=>intro mu c st K r h;simp [evC] at h
 |succ n ih=>
  intro mu c st K r h
  have ok:=fun mu c st K r h=>(ih mu c st K r h).1
  cases c with
  |skip=>exact ⟨fun n old bs w0 a W ι hr=>wpIn_skip ⟨.normal,st,ι,rfl,h,hr⟩,fun b hb=>by cases hb⟩
  |exit i=>exact ⟨fun n old bs w0 a W ι hr=>wpIn_exit ⟨.exit i,st,ι,rfl,h,hr⟩,fun b hb=>by cases hb⟩
  |ret=>exact ⟨fun n old bs w0 a W ι hr=>wpIn_ret ⟨.ret,st,ι,rfl,h,hr⟩,fun b hb=>by cases hb⟩
  |seq x y=>
   refine ⟨Ok.seq ((ok _ _ _ _ _ h).mono fun e st' hk=> ?_),fun b hb=>by cases hb⟩
   cases e with
   |normal=>exact ok _ _ _ _ _ hk
   |exit i=>exact hk
   |ret=>exact hk
  |block id x=>
   refine ⟨fun n' old bs w0 a W ι hr=>wpIn_block (wpIn_mono (ok _ _ _ _ _ h n' old bs w0 a W ι hr) ?_),fun b hb=>by cases hb⟩
   rintro e a' W' ⟨x',st',ι',rfl,hk,hrel⟩
   cases x' with
   |normal=>exact ⟨.normal,st',ι',rfl,hk,hrel⟩
   |exit i=>
    simp only [Ex.toExit,Exit.inBlock]
    simp only [blkO] at hk
    by_cases hi:i=id
    ·simp only [hi,Nat.beq_refl,if_true] at hk ⊢;exact ⟨.normal,st',ι',rfl,hk,hrel⟩
    ·simp only [if_neg hi,show Nat.beq i id=false by rw [Bool.eq_false_iff];intro h';exact hi (Nat.eq_of_beq_eq_true h')] at hk ⊢;exact ⟨.exit i,st',ι',rfl,hk,hrel⟩
   |ret=>exact ⟨.ret,st',ι',rfl,hk,hrel⟩
  |cond o x y=>
   refine ⟨fun n' old bs w0 a W ι hr=> ?_,fun b hb=>by cases hb⟩
   simp only [evC] at h
   split at h
   ·rename_i z hz
    rw [evx_eq] at hz
    have hsd:=hr.ev o
    rw [hz] at hsd
    refine wpIn_cond (sd_v hsd).1 ?_
    cases z with
    |true=>exact ok _ _ _ _ _ h n' old bs w0 a W ι hr
    |false=>exact ok _ _ _ _ _ h n' old bs w0 a W ι hr
   ·simp at h
  |loop x=>
   have hN:okN' E.P x (n+1) st fun e st'=>K e st'=some r:=by
    refine (ok _ _ _ _ _ h).mono fun e st' hk=> ?_
    cases e with
    |normal=>exact (ih _ _ _ _ _ hk).2 x rfl
    |exit i=>exact hk
    |ret=>exact hk
   exact ⟨ok_unroll (n+1) hN,fun b hb=>by cases hb;exact hN⟩
  |region id ops draw=>
   refine ⟨?_,fun b hb=>by cases hb⟩
   simp only [evC] at h
   refine nils_sound (fun st h=> ?_) _ _ _ h
   cases draw with
   |false=>
    intro n' old bs w0 a W ι hr
    refine wpIn_region ?_
    have:=evOps_sound (C:=evC E n) (n:=n') (old:=old) (bs:=bs) (w0:=w0) (Q:=Post old bs w0 fun e st'=>K e st'=some r) hsl hm hT hfn horc ok (fun st' a' W' ι' hk hrel=>⟨.normal,st',ι',rfl,hk,hrel⟩) ops.toList 0 st a W ι (by simp) h hr
    rw [List.range_eq_range']
    simpa using this
   |true=>
    simp only [evRd] at h
    split at h
    ·refine ok_go (mu:=allB mu ops.toList) hm hT _ _ _ ?_
     have:=evDrs_sound (C:=evC E n) hm hT hfn horc ok _ _ h
     show goDrs _ _ _ _ _ _ _ _
     refine goDrs_mono (fun ls st' hk=> ?_) _ _ this
     obtain ⟨h1,h2⟩:=guardB_eq hk
     unfold drwX SafeG
     exact ⟨h1,h2⟩
    ·rename_i p y f args hy
     obtain ⟨y1,y2,ts,y3⟩:=ylds_get ops.toList 0 (fun i o ho=>by simpa using ho) hy
     obtain ⟨hmid,h⟩:=guardB_eq h
     refine ok_drawY (T:=E.T) (mu:=allB mu ops.toList) hm hT p (by simpa using y1) y2 y3 hmid ?_
     refine goDrs_mono (fun ls1 st1 hk=> ?_) _ _ (evDrs_sound (C:=evC E n) hm hT hfn horc ok _ _ h)
     obtain ⟨h1,h2⟩:=guardB_eq hk
     unfold SafeG
     refine ⟨h1,callK_mono (fun st2 hk2=> ?_) (evCall_sound (C:=evC E n) hm hT hfn horc ok h2)⟩
     refine goDrs_mono (fun ls3 st3 hk3=> ?_) _ _ (evDrs_sound (C:=evC E n) hm hT hfn horc ok _ _ hk2)
     exact guardB_eq hk3
  |rangeFunc f ps asg body=>
   refine ⟨?_,fun b hb=>by cases hb⟩
   simp only [evC] at h
   split at h
   ·rename_i g cap hcal
    split at h
    ·rename_i fn c hb
     obtain ⟨h1,h2,h3⟩:=body_sound hfn hb
     split at h
     ·rename_i hres
      rw [fN_eq,fSt_eq] at h
      exact ok_range hcal h1 h2 h3 (by rw [←Array.toList_eq_nil_iff];exact hres) ((ok _ _ _ _ _ h).mono fun e st' hk=>rngO_sound hk)
     ·simp at h
    ·simp at h
   ·simp at h
  |_=>simp [evC] at h
end Go.Nv
end
