import Derived.Test.YtlmmifgminkdkaaGreatNwN6
import Derived.Test.YtlmmifgminkdkaaGreatNwN5
set_option linter.all false
set_option maxRecDepth 100000
section
namespace Go.Nv
open Go.RowKit
abbrev R:=Option (List D)
def fB(b:Bool)(K:Bool->R):R:=match b with|true=>K true|false=>K false
def fN(n:Nat)(K:Nat->R):R:=match n with|0=>K 0|n+1=>K (n+1)
def fI(n:Int)(K:Int->R):R:=match n with| .ofNat n=>fN n fun n=>K (.ofNat n)| .negSucc n=>fN n fun n=>K (.negSucc n)
def fL{β:Type}(f:β->(β->R)->R):List β->(List β->R)->R
 | [],K=>K []
 |x::xs,K=>f x fun x=>fL f xs fun xs=>K (x::xs)
def fU(b:UInt8)(K:UInt8->R):R:=fN b.toNat fun n=>K (UInt8.ofNat n)
def fV(v:Value)(K:Value->R):R:=match v with
 | .bool b=>fB b fun b=>K (.bool b)
 | .int k n=>fI n fun n=>K (.int k n)
 | .string s=>fL fU s.data.toList fun l=>K (.string ⟨l.toArray⟩)
 |v=>K v
def fD:Nat->D->(D->R)->R
 |0,d,K=>K d
 |n+1,d,K=>match d with
  | .v x=>fV x fun x=>K (.v x)
  | .a cs=>fL (fD n) cs fun cs=>K (.a cs)
  | .l cs=>fL (fD n) cs fun cs=>K (.l cs)
  | .p off cs=>fN off fun off=>fL (fD n) cs fun cs=>K (.p off cs)
  | .f g cs=>fL (fD n) cs fun cs=>K (.f g cs)
def fS:Nat->S->(S->R)->R
 |0,s,K=>K s
 |n+1,s,K=>match s with
  | .d x=>fD 8 x fun x=>K (.d x)
  | .ptr a b c=>fN a fun a=>fN b fun b=>fN c fun c=>K (.ptr a b c)
  | .own a b=>fN a fun a=>fN b fun b=>K (.own a b)
  | .clo g cs=>fL (fS n) cs fun cs=>K (.clo g cs)
  | .tup cs=>fL (fS n) cs fun cs=>K (.tup cs)
  | .agg cs=>fL (fS n) cs fun cs=>K (.agg cs)
  | .top=>K .top
def fK(b:B)(K:B->R):R:=match b with
 | .box t cs=>fL (fS 6) cs fun cs=>K (.box t cs)
 | .row v e s y xs=>fN v fun v=>fL (fD 8) xs fun xs=>K (.row v e s y xs)
 | .dead=>K .dead
 | .gone=>K .gone
 | .ghost cs=>K (.ghost cs)
 | .loop s p ps asg body cs=>K (.loop s p ps asg body cs)
def fE{β:Type}:List β->(List β->R)->R:=fL fun x K=>K x
theorem qys(b:Bool)(K:Bool->R):fB b K=K b:=by cases b<;>rfl
theorem qeV(n:Nat)(K:Nat->R):fN n K=K n:=by cases n<;>rfl
theorem qA2(n:Int)(K:Int->R):fI n K=K n:=by cases n<;>simp [fI,qeV]
theorem qeZ{β:Type}{f:β->(β->R)->R}(h: ∀x K,f x K=K x): ∀(l:List β) (K:List β->R),fL f l K=K l
 | [],K=>rfl
 |x::xs,K=>by rw [fL,h,qeZ h xs]
theorem qDF(b:UInt8)(K:UInt8->R):fU b K=K b:=by simp [fU,qeV]
theorem qDG(v:Value)(K:Value->R):fV v K=K v:=by
 unfold fV
 split
 ·rw [qys]
 ·rw [qA2]
 ·rw [qeZ qDF]
 ·rfl
theorem qlx: ∀(n:Nat) (d:D) (K:D->R),fD n d K=K d
 |0,d,K=>rfl
 |n+1,d,K=>by
  unfold fD
  split
  ·rw [qDG]
  ·rw [qeZ (qlx n)]
  ·rw [qeZ (qlx n)]
  ·rw [qeV,qeZ (qlx n)]
  ·rw [qeZ (qlx n)]
theorem qnK: ∀(n:Nat) (s:S) (K:S->R),fS n s K=K s
 |0,s,K=>rfl
 |n+1,s,K=>by
  unfold fS
  split
  ·rw [qlx]
  ·rw [qeV,qeV,qeV]
  ·rw [qeV,qeV]
  ·rw [qeZ (qnK n)]
  ·rw [qeZ (qnK n)]
  ·rw [qeZ (qnK n)]
  ·rfl
theorem qzk(b:B)(K:B->R):fK b K=K b:=by
 unfold fK
 split<;>first|rfl|rw [qeZ (qnK 6)] |rw [qeV,qeZ (qlx 8)]
theorem qrL{β:Type}(l:List β)(K:List β->R):fE l K=K l:=qeZ (fun _ _=>rfl) l K
def stp(st:St)(dst:Option Tmp)(s:S)(u:Option (Nat×B))(K:St->R):R:=
 fS 8 s fun s=>fE (qdQ st.env dst s) fun env=>match u with
  |none=>K ⟨env,st.t⟩
  |some (k,b)=>fN k fun k=>fK b fun b=>fE (qaW st.t k b) fun t=>K ⟨env,t⟩
theorem qd8(st:St)(dst:Option Tmp)(s:S)(u:Option (Nat×B))(K:St->R):stp st dst s u K=K ⟨qdQ st.env dst s,qpf st.t u⟩:=by
 unfold stp
 rw [qnK,qrL]
 split
 ·rfl
 ·rw [qeV,qzk,qrL];rfl
def fSt(st:St)(K:St->R):R:=fE st.env fun env=>fE st.t fun t=>K ⟨env,t⟩
theorem qey(st:St)(K:St->R):fSt st K=K st:=by unfold fSt;rw [qrL,qrL]
def qus(o:Out)(Kv:S->Option (Nat×B)->R):R:=
 match o with
 | .fail=>none
 | .val s u=>Kv s u
 | .side b s u=>match b with|true=>Kv s u|false=>none
 | .idx cells e xs n=>match n with
  | .ofNat m=>match qhw cells xs with
   |true=>match lkO xs m with|some x=>Kv (.d (.p 0 x.cells)) none|none=>none
   |false=>none
  | .negSucc _=>none
 | .rld ty agg cells size xs off=>match Nat.blt 0 size with
  |true=>match qhw size xs with
   |true=>match lkO xs (off/size) with
    |some x=>match qnS agg cells x.cells (off%size) with|some d=>Kv (.d d) none|none=>none
    |none=>none
   |false=>none
  |false=>none
 | .rst cells k v e size bytes xs off d=>match Nat.blt 0 size with
  |true=>match qhw size xs with
   |true=>match Nat.beq (qb8 d.cells) cells with
    |true=>match qds size xs off d.cells with|some xs'=>Kv .top (some (k,.row v e size bytes xs'))|none=>none
    |false=>none
   |false=>none
  |false=>none
 | .pick z a b=>match z with|true=>Kv a none|false=>Kv b none
 | .boo b=>fB b fun b=>Kv (.d (.v (.bool b))) none
def nlD:Nat->D->D
 |0,d=>d
 |n+1,d=>match d with
  | .v (.slice none 0 0)=> .l []
  | .a cs=> .a (qbl (nlD n) cs)
  | .l cs=> .l (qbl (nlD n) cs)
  | .p off cs=> .p off (qbl (nlD n) cs)
  | .f g cs=> .f g (qbl (nlD n) cs)
  |d=>d
structure Ev where
 P:Program
 T:Tb
 fns:List Func
 mu:FuncId->Tmp->Bool
 orc:FuncId->List D->Option (List D)
 own:TypeId->Bool
 frz:FuncId->Bool
 raw:FuncId->Bool
 orcU:(g:FuncId)->(e:TypeId)->(size:Nat)->(ds xs:List D)->Option {ys:List D//qjN P g e size ds xs ys}
def qBf(b:Bool)(ds:List D):List D:=match b with|true=>ds|false=>qbl (nlD 8) ds
def qy8(T:Tb)(st:St):List ResultVar->R
 | [] =>some []
 |r::rs=>match qyy T st r with|some d=>(match qy8 T st rs with|some ds=>some (d::ds)|none=>none)|none=>none
def qii(E:Ev)(g:FuncId):Option (Func×Code):=match lkO E.fns g with
 |some fn=>match fn.body with|some c=>(match fn.name== "runtime.NumGoroutine" with|true=>none|false=>some (fn,c))|none=>none
 |none=>none
section
variable (E:Ev) (C:(Tmp->Bool)->Code->St->(Ex->St->R)->R) (mu:Tmp->Bool)
def evF(g:FuncId)(ds0:List D):R:=fL (fD 8) (qBf (E.raw g) ds0) fun ds=>match E.orc g ds with
 |some r=>some r
 |none=>match qii E g with
  |some (fn,c)=>C (E.mu g) c (qeD ds fn.ntmps) fun e st=>match e with| .exit _=>none|_=>qy8 E.T st fn.results.toList
  |none=>none
def qCJ(rs:List ResultVar)(k:Nat)(dst:Option Tmp)(K:St->R)(e:Ex)(st:St):R:=
 match e with
 | .exit _=>none
 |_=>match qh1 E.T st rs with
  |some ss=>match qcv st.t k with
   | .ghost cs=>fSt ⟨qdQ cs dst (qz3 ss),qaW st.t k .dead⟩ K
   |_=>none
  |none=>none
def qAI(k:Nat)(K:Ex->St->R)(e:Ex)(st:St):R:=
 match e with
 | .exit _=>none
 |_=>match qcv st.t k with
  | .loop s pend _ _ _ cs=>match s,pend with
   | .ready,none=>fSt ⟨cs,qaW st.t k .dead⟩ (K .normal)
   | .done,some (.exit i)=>fSt ⟨cs,qaW st.t k .dead⟩ (K (.exit i))
   | .done,some .ret=>fSt ⟨cs,qaW st.t k .dead⟩ (K .ret)
   |_,_=>none
  |_=>none
def qAW(k:Nat)(K:St->R)(e:Ex)(st:St):R:=
 match e with
 | .normal=>match qcv st.t k with
  | .loop s pend ps asg body cs=>match s with
   | .ready=>fSt ⟨st.env,qaW st.t k (.loop .busy pend ps asg body cs)⟩ K
   |_=>none
  |_=>none
 |_=>none
def qCi(k kk:Nat)(dst:Option Tmp)(K:St->R)(e:Ex)(st:St):R:=
 match qcv st.t kk with
 | .ghost env=>match qcv st.t k with
  | .loop s p ps asg body cs=>match s with
   | .busy=>match e with
    | .normal=>fSt ⟨qdQ env dst tt',qaW (qaW st.t k (.loop .ready none ps asg body cs)) kk .dead⟩ K
    | .exit i=>fSt ⟨qdQ env dst ff',qaW (qaW st.t k (.loop .done (some (.exit i)) ps asg body cs)) kk .dead⟩ K
    | .ret=>fSt ⟨qdQ env dst ff',qaW (qaW st.t k (.loop .done (some .ret) ps asg body cs)) kk .dead⟩ K
   |_=>none
  |_=>none
 |_=>none
def qpe(f:S)(args:List Operand)(dst:Option Tmp)(st:St)(K:St->R):R:=match qcs f with
 |some (g,cap)=>match qii E g with
  |some (fn,c)=>fN (qb8 st.t) fun kk=>fSt ⟨qdP (qdP (qbl (evx st.env) args) cap) (qoL (fn.ntmps-(qb8 args+qb8 cap))),qaW st.t kk (.ghost st.env)⟩ fun st'=>C (E.mu g) c st' (qCJ E fn.results.toList kk dst K)
  |none=>none
 |none=>none
def qBw(st:St)(K:St->R):R:=fL (fS 8) st.env fun env=>fL fK st.t fun t=>K ⟨env,t⟩
def qwW:List S->St->(St->R)->R
 | [],st,K=>qBw st K
 |s::ss,st,K=>match s with
  | .own k _=>qwW ss (qre k st) K
  |_=>qwW ss st K
def evU(g:FuncId)(cap:List D)(ss:List S)(st:St):Option (Nat×Nat×B):=match cap with
 | [] =>match ss with
  | .own k ver::rest=>match qdp rest with
   |some ds=>match qcv st.t k with
    | .row v e size bytes xs=>match Nat.beq v ver with
     |true=>match E.orcU g e size ds xs with
      |some y=>some (k,ver,.row (ver+1) e size bytes y.1)
      |none=>none
     |false=>none
    |_=>none
   |none=>none
  |_=>none
 |_=>none
def evn(env:List S):Operand->S
 | .const (.slice none 0 0)=> .d (.v (.slice none 0 0))
 |x=>evx env x
def qmk(f:Operand)(args:List Operand)(dst:Option Tmp)(st:St)(K:St->R):R:=
 match evx st.env f with
 | .own k v=>match v with
  |0=>match qcv st.t k with
   | .loop s pend ps asg body cs=>match s with
    | .ready=>match Nat.beq (qb8 args) ps.size with
     |true=>fN (qb8 st.t) fun kk=>fSt ⟨qrb ps.toList (qbl (evx st.env) args) cs,qaW st.t kk (.ghost st.env)⟩ fun st'=>
       C (fun _=>false) asg st' (qAW k fun st2=>C (fun _=>false) body st2 (qCi k kk dst K))
     |false=>none
    |_=>none
   |_=>none
  |_=>none
 |fv=>match fv,qdp (args.map (evx st.env)) with
  | .d (.f g cap),some ds=>match E.raw g with
   |true=>match qdp (args.map (evn st.env)) with
    |some ds=>match evF E C g (ds++cap) with
     |some res=>stp st dst (qh5 (qbl (nlD 8) res)) none K
     |none=>none
    |none=>none
   |false=>match evF E C g (ds++cap) with
    |some res=>stp st dst (qh5 (qbl (nlD 8) res)) none K
    |none=>qpe E C fv args dst st K
  | .d (.f g cap),none=>match evU E g cap (args.map (evx st.env)) st with
   |some (k,ver,b)=>stp st dst (.own k (ver+1)) (some (k,b)) K
   |none=>match E.frz g with
    |true=>qwW (qbl (evx st.env) args) st fun st'=>match evx st'.env f,qdp (args.map (evx st'.env)) with
     | .d (.f g cap),some ds=>match evF E C g (ds++cap) with
      |some res=>stp st' dst (qh5 (qbl (nlD 8) res)) none K
      |none=>none
     |_,_=>none
    |false=>qpe E C fv args dst st K
  |_,_=>qpe E C fv args dst st K
def qsz(o:Oper)(st:St)(K:qcn->St->R):R:=
 fN (qb8 st.t) fun k0=>qus (opX E.T k0 (qq3 mu o.dst) (evx st.env) (qcv st.t) o.type o.op) fun s u=>stp st o.dst s u (K ⟨qfZ (evx st.env) o.op,u.map (·.1)⟩)
def qvt(xt:TypeId)(x lo hi m:Operand)(o:Oper)(st:St)(K:St->R):R:=
 match evx st.env x,evx st.env lo,evx st.env hi,evx st.env m with
 | .d (.l xs),.d (.v (.int .i64 (.ofNat l))),.d (.v (.int .i64 (.ofNat h))),.d (.v (.int .i64 (.ofNat m)))=>match qhG E.T xt with
  |some i=>match i.elem with
   |some e=>match qhG E.T e with
    |some j=>match Nat.blt 0 j.cells&&(Nat.ble l h&&(Nat.ble h m&&(Nat.ble m (qb8 xs)&&qhw j.cells xs))) with
     |true=>stp st o.dst (.d (.l (qco xs l h))) none K
     |false=>none
    |none=>none
   |none=>none
  |none=>none
 |_,_,_,_=>none
def qAo(o:Oper)(st:St)(K:St->R):R:=match o.op with
 | .slice xt x (some lo) (some hi) (some m)=>qvt E xt x lo hi m o st K
 | .call {callee:= .value f,args,.. }=>qmk E C f args.toList o.dst st K
 |_=>qsz E mu o st fun _=>K
def qAD(o:Oper)(st:St)(K:qcn->St->R):R:=match o.op with
 | .call {callee:= .value f,args,.. }=>match evx st.env f,qdp (args.toList.map (evx st.env)) with
  | .d (.f g cap),some ds=>match evF E C g (ds++cap) with
   |some res=>stp st o.dst (qh5 (qbl (nlD 8) res)) none (K ⟨[],none⟩)
   |none=>none
  |_,_=>none
 |_=>qsz E mu o st K
def evG{α:Type}(ops:List Oper)(o:Oper)(st:St)(run:R)(skip:R):R:=match o.guard with
 |none=>run
 |some (j,want)=>match qhj ops j with
  |some d=>match lk st.env d with
   | .d (.v (.bool b))=>match b,want with
    |true,true=>run
    |false,false=>run
    |_,_=>skip
   | .tup [] =>skip
   |_=>none
  |none=>none
def qlN(ops:List Oper):List Oper->St->(St->R)->R
 | [],st,K=>K st
 |o::rest,st,K=>evG (α:=D) ops o st (qAo E C mu o st fun st'=>qlN ops rest st' K) (stp st o.dst (.tup []) none fun st'=>qlN ops rest st' K)
def qkd(ops:List Oper):List Oper->List qcn->St->(List qcn->St->R)->R
 | [],acc,st,K=>K acc st
 |o::rest,acc,st,K=>evG (α:=D) ops o st (qAD E C mu o st fun l st'=>qkd ops rest (acc++ [l]) st' K) (stp st o.dst (.tup []) none fun st'=>qkd ops rest (acc++ [⟨[],none⟩]) st' K)
def qwZ(st:St)(ops:List Oper):List Oper->Nat->Option (Nat×Oper×Operand×List Operand)
 | [],_=>none
 |o::rest,p=>match o.op,o.guard with
  | .call {callee:= .value (.tmp d),args,.. },none=>
   match ops.any fun q=>match q.dst,q.op with
    |some d',.move (.tmp e)=>match Nat.beq d d' with|true=>(match lk st.env e with| .own _ _=>true|_=>false)|false=>false
    |_,_=>false with
   |true=>some (p,o,.tmp d,args.toList)
   |false=>qwZ st ops rest (p+1)
  |_,_=>qwZ st ops rest (p+1)
def qit(b:Bool)(k:R):R:=match b with|true=>k|false=>none
def qDI(ops:Array Oper)(st:St)(K:St->R):R:=match qwZ st ops.toList ops.toList 0 with
 |none=>qkd E C mu ops.toList ops.toList [] st fun ls st'=>qit (qgt ops ls) (K st')
 |some (p,y,f,args)=>qit (qvP ops p) (qkd E C mu ops.toList (ops.toList.take p) [] st fun ls1 st1=>qit (qgt ops (ls1++qtB (ops.size-p)))
   (qmk E C f args y.dst st1 fun st2=>qkd E C mu ops.toList (ops.toList.drop (p+1)) (qtB (p+1)) st2 fun ls3 st3=>qit (qgt ops ls3) (K st3)))
end
def qwS(mu:Tmp->Bool):List Oper->Tmp->Bool
 | [],t=>mu t
 |o::rest,t=>match o.op,o.dst with
  | .alloc _,some d=>match Nat.beq d t with|true=>true|false=>qwS mu rest t
  |_,_=>qwS mu rest t
def qsf(T:Tb)(k:Nat)(cs:List S):List (Nat×TypeId)->St->(St->R)->R
 | [],st,K=>K st
 |(off,ty)::fs,st,K=>match lk cs off with
  | .d (.v (.slice none 0 0))=>match qhG T ty with
   |some i=>match i.elem with
    |some e=>match qhG T e with
     |some j=>fSt (qr8 k off e j.cells j.bytes st) fun st=>qsf T k cs fs st K
     |none=>qsf T k cs fs st K
    |none=>qsf T k cs fs st K
   |none=>qsf T k cs fs st K
  |_=>qsf T k cs fs st K
def qtb(T:Tb)(ow:TypeId->Bool):List B->Nat->St->(St->R)->R
 | [],_,st,K=>K st
 |b::bs,k,st,K=>match b with
  | .box ty cs=>match qhG T ty with
   |some i=>match i.elem with
    |some _=>qsf T k cs [(0,ty)] st fun st=>qtb T ow bs (k+1) st K
    |none=>match ow ty with
     |true=>qsf T k cs i.fields st fun st=>qtb T ow bs (k+1) st K
     |false=>qtb T ow bs (k+1) st K
   |none=>qtb T ow bs (k+1) st K
  |_=>qtb T ow bs (k+1) st K
def qyZ{β:Type}:Nat->List β->List β
 |0,l=>l
 |n+1,l=>match l with| [] => [] |_::l=>qyZ n l
def qDU(id:Nat)(K:Ex->St->R)(e:Ex)(st:St):R:=match e with
 | .exit i=>match Nat.beq i id with|true=>K .normal st|false=>K (.exit i) st
 | .normal=>K .normal st
 | .ret=>K .ret st
def evC(E:Ev):Nat->(Tmp->Bool)->Code->St->(Ex->St->R)->R
 |0,_,_,_,_=>none
 |n+1,mu,c,st,K=>match c with
  | .skip=>K .normal st
  | .exit i=>K (.exit i) st
  | .ret=>K .ret st
  | .seq a b=>evC E n mu a st fun e st'=>match e with
   | .normal=>evC E n mu b st' K
   | .exit i=>K (.exit i) st'
   | .ret=>K .ret st'
  | .block id b=>evC E n mu b st (qDU id K)
  | .cond c a b=>match evx st.env c with
   | .d (.v (.bool z))=>match z with|true=>evC E n mu a st K|false=>evC E n mu b st K
   |_=>none
  | .loop b=>evC E n mu b st fun e st'=>match e with
   | .normal=>evC E n mu (.loop b) st' K
   | .exit i=>K (.exit i) st'
   | .ret=>K .ret st'
  | .region id ops draw=>fN (Nat.sub (qb8 st.t) 8) fun k0=>qtb E.T E.own (qyZ k0 st.t) k0 st fun st=>match draw with
   |true=>qDI E (evC E n) (qwS mu ops.toList) ops st (K .normal)
   |false=>qlN E (evC E n) (qwS mu ops.toList) ops.toList ops.toList st (K .normal)
  | .rangeFunc f ps asg body=>match qcs (evx st.env f) with
   |some (g,cap)=>match qii E g with
    |some (fn,c)=>match fn.results.toList with
     | [] =>fN (qb8 st.t) fun k=>fSt ⟨.own k 0::qdP cap (qoL (fn.ntmps-(1+qb8 cap))),qaW st.t k (.loop .ready none ps asg body st.env)⟩ fun st'=>evC E n (E.mu g) c st' (qAI k K)
     |_=>none
    |none=>none
   |none=>none
  |_=>none
end Go.Nv
end
section
namespace Go.Nv
open Go.RowKit
theorem qlr{o:Out}{Kv:S->Option (Nat×B)->R}{r:List D}(h:qus o Kv=some r):qjH o (fun s u=>Kv s u=some r):=by
 unfold qus at h
 split at h
 ·simp at h
 ·exact Eq.mpr (qcE _ (fun s=>Kv s _=some r)) h
 ·split at h
  ·unfold qjH Sd;exact ⟨rfl,h⟩
  ·simp at h
 ·split at h
  ·split at h
   ·split at h
    ·rename_i _ hu _ x hx
     unfold qjH qw5
     rw [qbU] at hx
     exact ⟨x,hx,Int.natCast_nonneg _,qbE.1 hu,h⟩
    ·simp at h
   ·simp at h
  ·simp at h
 ·split at h
  ·split at h
   ·split at h
    ·split at h
     ·rename_i ty agg cells size xs off _ hs _ hu _ x hx _ d hd
      unfold qjH qw2
      rw [qbU] at hx
      rw [Nat.blt_eq] at hs
      exact ⟨off/size,off%size,x,d,by rw [Nat.mul_comm];exact (Nat.div_add_mod off size).symm,Nat.mod_lt _ hs,hx,qbE.1 hu,hd,h⟩
     ·simp at h
    ·simp at h
   ·simp at h
  ·simp at h
 ·split at h
  ·split at h
   ·split at h
    ·split at h
     ·rename_i _ hs _ hu _ hl _ xs' hx
      unfold qjH qv8
      rw [Nat.blt_eq] at hs
      exact ⟨xs',hx,by rw [<-qaL];exact Nat.eq_of_beq_eq_true hl,qbE.1 hu,hs,h⟩
     ·simp at h
    ·simp at h
   ·simp at h
  ·simp at h
 ·split at h
  ·exact Eq.mpr (qcE _ (fun s=>Kv s none=some r)) h
  ·exact Eq.mpr (qcE _ (fun s=>Kv s none=some r)) h
 ·rw [qys] at h
  show Kv (.d (.v (.bool (bz _)))) none=some r
  rw [qay];exact h
def LeD(d d':D):Prop:= ∀(W:World) (ok:Nat->Prop) (v:Value),Den W ok d v->Den W ok d' v
theorem qtT:LeD (.v (.slice none 0 0)) (.l []):=fun W ok v h=>by cases h;exact .l0 (by simp) fun _=>rfl
def qra(cs cs':List D):Prop:=cs'.length=cs.length/\ ∀(i:Nat) (c c':D),cs[i]? =some c->cs'[i]? =some c'->LeD c c'
theorem qra.cells{W:World}{ok:Nat->Prop}{cs cs':List D}{us:List Value}(h:qra cs cs')(hd: ∀(i:Nat) (c:D) (u:Value),cs[i]? =some c->us[i]? =some u->Den W ok c u): ∀(i:Nat) (c:D) (u:Value),cs'[i]? =some c->us[i]? =some u->Den W ok c u:=by
 intro i c' u hc hu
 have hi:i<cs.length:=by rw [<-h.1];exact (List.getElem?_eq_some_iff.1 hc).1
 have hx:cs[i]? =some cs[i] :=List.getElem?_eq_getElem hi
 exact h.2 i _ c' hx hc _ _ _ (hd i _ u hx hu)
theorem qra.append{xs xs' ys ys':List D}(h:qra xs xs')(k:qra ys ys'):qra (xs++ys) (xs'++ys'):=by
 refine ⟨by simp [h.1,k.1],fun i c c' hc hc'=> ?_⟩
 rw [List.getElem?_append] at hc hc'
 rw [h.1] at hc'
 split at hc
 ·rename_i hi;rw [if_pos hi] at hc';exact h.2 i c c' hc hc'
 ·rename_i hi;rw [if_neg hi] at hc';exact k.2 _ c c' hc hc'
def LeC(x x':D):Prop:=qra x.cells x'.cells
theorem qgI{f:D->D}(h: ∀d,LeD d (f d))(cs:List D):qra cs (qbl f cs):=by
 rw [qf3]
 refine ⟨by simp,fun i c c' hc hc'=> ?_⟩
 rw [List.getElem?_map,hc] at hc'
 simp at hc';subst hc';exact h c
theorem qkT{f:D->D}(h: ∀d,LeC d (f d)): ∀(cs:List D),qra (flat cs) (flat (qbl f cs))
 | [] =>⟨rfl,fun i c c' hc _=>by simp [flat] at hc⟩
 |x::xs=>by
  have:=(h x).append (qkT h xs)
  simpa [flat,qbl] using this
theorem ql5: ∀(n:Nat) (d:D),LeD d (nlD n d)/\LeC d (nlD n d)
 |0,d=>⟨fun _ _ _ h=>h,rfl,fun i c c' hc hc'=>by
   have hc2:d.cells[i]? =some c':=hc'
   rw [hc] at hc2;simp at hc2;subst hc2;exact fun _ _ _ h=>h⟩
 |n+1,d=>by
  have ih:=ql5 n
  have same: ∀d:D,LeD d d:=fun d _ _ _ h=>h
  have one: ∀{x y:D},LeD x y->qra [x] [y] :=fun {x y} h=>⟨rfl,fun i c c' hc hc'=>by
   cases i with
   |zero=>simp at hc hc';subst hc;subst hc';exact h
   |succ i=>simp at hc⟩
  unfold nlD
  split
  ·exact ⟨qtT,one qtT⟩
  ·rename_i cs
   have hm:=qgI (fun d=>(ih d).1) cs
   refine ⟨fun W ok v h=> ?_,hm⟩
   cases h with
   |a h1 h2 h3=>exact .a (by rw [hm.1];exact h1) (hm.cells h2) h3
  ·rename_i cs
   have hf:=qkT (fun d=>(ih d).2) cs
   have hl:(qbl (nlD n) cs).length=cs.length:=by rw [qf3];simp
   have key:LeD (.l cs) (.l (qbl (nlD n) cs)):=fun W ok v h=>by
    cases h with
    |l0 h1 h2=>exact .l0 h1 h2
    |l h1 h2 h3 h4 h5 h6 h7 h8=>rw [<-hl];exact .l h1 (by rw [hf.1];exact h2) h3 h4 (hf.cells h5) h6 (by rw [hl];exact h7) h8
   exact ⟨key,one key⟩
  ·rename_i off cs
   have hm:=qgI (fun d=>(ih d).1) cs
   have key:LeD (.p off cs) (.p off (qbl (nlD n) cs)):=fun W ok v h=>by
    cases h with
    |p h1 h2 h3 h4 h5 h6=>exact .p h1 (by rw [hm.1];exact h2) h3 h4 (hm.cells h5) h6
   exact ⟨key,one key⟩
  ·rename_i g cs
   have hm:=qgI (fun d=>(ih d).1) cs
   have key:LeD (.f g cs) (.f g (qbl (nlD n) cs)):=fun W ok v h=>by
    cases h with
    |f h1 h2=>exact .f (by rw [hm.1];exact h1) (hm.cells h2)
   exact ⟨key,one key⟩
  ·refine ⟨same _,rfl,fun i c c' hc hc'=> ?_⟩
   rw [hc] at hc';simp at hc';subst hc';exact same _
theorem qqQ{W:World}{ok:Nat->Prop}{ds:List D}{us:List Value}(h:qaN W ok ds us):qaN W ok (qbl (nlD 8) ds) us:=by
 have hm:=qgI (fun d=>(ql5 8 d).1) ds
 exact ⟨by rw [hm.1];exact h.1,hm.cells h.2⟩
theorem qqA{P:Program}{g:FuncId}{ds res:List D}(h:Fun P g ds res):Fun P g ds (qbl (nlD 8) res):=by
 refine ⟨h.1,fun w ok us hd=>(h.2 w ok us hd).mono fun e w' ⟨v,h1,h2,h3⟩=>⟨v,h1, ?_,h3⟩⟩
 match res,h2 with
 | [d],h2=>exact (ql5 8 d).1 _ _ _ h2
 | [],h2=>exact h2
 |d::d'::ds,h2=>
  obtain ⟨us,e1,e2⟩:=h2
  exact ⟨us,e1,qqQ e2⟩
theorem qxO{P:Program}{g:FuncId}{ds res:List D}(h:Fun P g (qbl (nlD 8) ds) res):Fun P g ds (qbl (nlD 8) res):=by
 refine ⟨h.1,fun w ok us hd=>(h.2 w ok us (qqQ hd)).mono fun e w' ⟨v,h1,h2,h3⟩=>⟨v,h1, ?_,h3⟩⟩
 match res,h2 with
 | [d],h2=>exact (ql5 8 d).1 _ _ _ h2
 | [],h2=>exact h2
 |d::d'::ds,h2=>
  obtain ⟨us,e1,e2⟩:=h2
  exact ⟨us,e1,qqQ e2⟩
end Go.Nv
end
section
namespace Go.Nv
open Go.RowKit
theorem qei{E:Ev}(hfn: ∀g fn,lkO E.fns g=some fn->E.P.funcs[g]? =some fn){g:FuncId}{fn:Func}{c:Code}(h:qii E g=some (fn,c)):E.P.funcs[g]? =some fn/\fn.body=some c/\(fn.name== "runtime.NumGoroutine")=false:=by
 unfold qii at h
 split at h
 ·rename_i fn' hf
  split at h
  ·rename_i c' hc
   split at h
   ·simp at h
   ·rename_i hn
    simp at h
    obtain ⟨rfl,rfl⟩:=h
    exact ⟨hfn _ _ hf,hc,hn⟩
  ·simp at h
 ·simp at h
section
variable {E:Ev} {C:(Tmp->Bool)->Code->St->(Ex->St->R)->R}
theorem qoa{rs:List ResultVar}{k:Nat}{dst:Option Tmp}{K:St->R}{e:Ex}{st:St}{r:List D}(h:qCJ E rs k dst K e st=some r):qwV E.T rs k dst (fun st=>K st=some r) e st:=by
 unfold qCJ at h
 unfold qwV
 cases e with
 |exit i=>simp at h
 |normal=>
  simp only at h ⊢
  split at h
  ·split at h
   ·rw [qey] at h;(simp only [*,qaA] <;>first|done|exact h)
   ·simp at h
  ·simp at h
 |ret=>
  simp only at h ⊢
  split at h
  ·split at h
   ·rw [qey] at h;(simp only [*,qaA] <;>first|done|exact h)
   ·simp at h
  ·simp at h
theorem qom{k:Nat}{K:St->R}{e:Ex}{st:St}{r:List D}(h:qAW k K e st=some r):qq8 k (fun st=>K st=some r) e st:=by
 unfold qAW at h
 unfold qq8
 cases e with
 |normal=>
  simp only at h ⊢
  split at h
  ·split at h
   ·rw [qey] at h;(simp only [*,qaA] <;>first|done|exact h)
   ·simp at h
  ·simp at h
 |exit i=>simp at h
 |ret=>simp at h
theorem qnT{k kk:Nat}{dst:Option Tmp}{K:St->R}{e:Ex}{st:St}{r:List D}(h:qCi k kk dst K e st=some r):qyR k kk dst (fun st=>K st=some r) e st:=by
 unfold qCi at h
 unfold qyR
 split at h
 ·split at h
  ·split at h
   ·cases e<;>(simp only [qey] at h;simp only [*,qaA] <;>first|done|exact h)
   ·simp at h
  ·simp at h
 ·simp at h
theorem qnq{k:Nat}{K:Ex->St->R}{e:Ex}{st:St}{r:List D}(h:qAI k K e st=some r):qy9 k (fun e st=>K e st=some r) e st:=by
 unfold qAI at h
 unfold qy9
 cases e with
 |exit i=>simp at h
 |normal=>
  simp only at h ⊢
  split at h
  ·split at h<;>first|(rw [qey] at h;(simp only [*,qaA] <;>first|done|exact h))|simp at h
  ·simp at h
 |ret=>
  simp only at h ⊢
  split at h
  ·split at h<;>first|(rw [qey] at h;(simp only [*,qaA] <;>first|done|exact h))|simp at h
  ·simp at h
theorem qrC: ∀(n:Nat) (x:D),qoA n x x:=by
 intro n
 induction n with
 |zero=>intro x;exact rfl
 |succ n ih=>
  have hl: ∀xs:List D,qtK (qoA n) xs xs:=by
   intro xs
   induction xs with
   |nil=>trivial
   |cons x xs ihx=>exact ⟨ih x,ihx⟩
  have hv: ∀x:Value,qw4 x x:=by intro x;cases x<;>simp [qw4]
  intro x
  cases x<;>simp_all [qoA]
theorem qfO{T:Tb}{st:St}: ∀{rs:List ResultVar} {ds:List D},qy8 T st rs=some ds->qxw T st rs ds
 | [],ds,h=>by simp [qy8] at h;subst h;trivial
 |r::rs,ds,h=>by
  unfold qy8 at h
  split at h
  ·rename_i d hd
   split at h
   ·rename_i ds' hds
    simp at h;subst h
    refine ⟨?_,qfO hds⟩
    rw [hd];exact qrC 4 d
   ·simp at h
  ·simp at h
theorem qdi(hm:E.P.follows .mixedOrders=true)(hT:qcM E.P E.T)(hfn: ∀g fn,lkO E.fns g=some fn->E.P.funcs[g]? =some fn)(horc: ∀g ds res,E.orc g ds=some res->Fun E.P g ds res)
  (hC: ∀mu c st K r,C mu c st K=some r->Ok E.P c st fun e st'=>K e st'=some r) {g:FuncId} {ds res:List D} (h:evF E C g ds=some res):Fun E.P g ds (qbl (nlD 8) res):=by
 unfold evF at h
 rw [qeZ (qlx 8)] at h
 have key:Fun E.P g (qBf (E.raw g) ds) res->Fun E.P g ds (qbl (nlD 8) res):=by
  cases E.raw g with
  |true=>exact qqA
  |false=>exact qxO
 refine key ?_
 generalize qBf (E.raw g) ds=ds' at h ⊢
 split at h
 ·rename_i r' hr
  simp at h;subst h
  exact horc _ _ _ hr
 ·split at h
  ·rename_i fn c hb
   obtain ⟨h1,h2,h3⟩:=qei hfn hb
   refine qiF hm hT h1 h2 h3 ((hC _ _ _ _ _ h).mono fun e st' hk=> ?_)
   cases e with
   |exit i=>simp at hk
   |normal=>exact qfO hk
   |ret=>exact qfO hk
  ·simp at h
end
end Go.Nv
end
section
namespace Go.Nv
open Go.RowKit
section
variable {E:Ev} {C:(Tmp->Bool)->Code->St->(Ex->St->R)->R}
theorem qlZ(hm:E.P.follows .mixedOrders=true)(hT:qcM E.P E.T)(hfn: ∀g fn,lkO E.fns g=some fn->E.P.funcs[g]? =some fn)
  (hC: ∀mu c st K r,C mu c st K=some r->Ok E.P c st fun e st'=>K e st'=some r) {f:Operand} {args:List Operand} {dst:Option Tmp} {st:St} {K:St->R} {r:List D} (h:qpe E C (evx st.env f) args dst st K=some r):
  qbH E.P f args dst st fun st'=>K st'=some r:=by
 unfold qpe at h
 split at h
 ·rename_i g cap hcal
  split at h
  ·rename_i fn c hb
   obtain ⟨h1,h2,h3⟩:=qei hfn hb
   rw [qeV,qey] at h
   exact qhQ hm hT hcal h1 h2 h3 ((hC _ _ _ _ _ h).mono fun e st' hk=>qoa hk)
  ·simp at h
 ·simp at h
theorem qwa(st:St)(K:St->R):qBw st K=K st:=by
 unfold qBw
 rw [qeZ (qnK 8),qeZ qzk]
theorem qf6{P:Program}{f:Operand}{args:List Operand}{dst:Option Tmp}{K:St->R}{r:List D}{Kp:St->Prop}(hk: ∀st,K st=some r->qbH P f args dst st Kp): ∀(ss:List S) (st:St),qwW ss st K=some r->qbH P f args dst st Kp
 | [],st,h=>by unfold qwW at h;rw [qwa] at h;exact hk _ h
 |s::ss,st,h=>by
  unfold qwW at h
  split at h
  ·rename_i k v;exact qbO k (qf6 hk ss _ h)
  ·exact qf6 hk ss _ h
theorem qvy{old bs:Nat->Prop}{w0:Ctx}{ι:Nat->Value}{st:St}{a:Act}{W:World}(h:Rel old bs w0 ι st a W)(x:Operand):qaC W ι (qap (tat st.t)) (okT bs (tat st.t) ι) (evn st.env x) (a.eval x):=by
 unfold evn
 split
 ·exact .d (.v rfl)
 ·rw [qbc];exact h.ev x
theorem qsE{P:Program}{f:Operand}{args:List Operand}{dst:Option Tmp}{st:St}{g:FuncId}{cap ds res:List D}{K:St->Prop}(hf:evx st.env f= .d (.f g cap))(hd:qdp (args.map (evn st.env))=some ds)(h:Fun P g (ds++cap) res)(hk:K ⟨qdQ st.env dst (qh5 res),st.t⟩):qbH P f args dst st K:=by
 unfold qbH
 rintro o ⟨ts,hop⟩ rfl
 intro n old bs w0 a W ι Kw Q hr hKw
 rw [qbc] at hf
 rw [qbq] at hk
 have hfv:=hr.ev f
 rw [hf] at hfv
 obtain ⟨cs,hfe,hcs⟩:=qv2 hfv
 have hargs:qao W ι (qap (tat st.t)) (okT bs (tat st.t) ι) (args.map (evn st.env)) (args.map a.eval):=by
  refine ⟨by simp,fun i c u hc hu=> ?_⟩
  rw [List.getElem?_map] at hc hu
  cases hq:args[i]? with
  |none=>simp [hq] at hc
  |some q=>simp [hq] at hc hu;subst hc;subst hu;exact qvy hr q
 rw [qbL hd] at hargs
 have hdd:=hargs.inv
 refine ⟨fun f _=>FW.fn _ f, ?_⟩
 rw [Oper.semAt_eq _ _ _ (by rw [hop];simp)]
 have hrun:(execOp a.eval o).run P W= .ok (.enter g ((args.map a.eval++cs).toArray)) W:=by
  obtain ⟨fn,h1,h2,h3⟩:=h.1
  obtain ⟨c,h2⟩:=Option.isSome_iff_exists.1 h2
  simp [execOp,hop,resolve,hfe,Deferred.ofValue,invoke,callFunc,h1,h2,h3]
  simp_all
 rw [hrun]
 refine ⟨by simp [FW,Fence.wide], ?_⟩
 refine CallsIn.mono (FW.calls (h.2 W _ _ (hdd.append hcs))) fun e W' he=> ?_
 obtain ⟨v,rfl,hret,hbel⟩:=he
 have hst:=hr.tok.quiet hr.oldIn (qaP hbel)
 exact hKw _ _ _ ι hk (hr.put (t:=st.t) hst (hret.toS (fun b hb _=>hb.elim id (qev hr.tok hr.oldIn))))
theorem qgj(hm:E.P.follows .mixedOrders=true)(hT:qcM E.P E.T)(hfn: ∀g fn,lkO E.fns g=some fn->E.P.funcs[g]? =some fn)(horc: ∀g ds res,E.orc g ds=some res->Fun E.P g ds res)
  (hC: ∀mu c st K r,C mu c st K=some r->Ok E.P c st fun e st'=>K e st'=some r) {f:Operand} {args:List Operand} {dst:Option Tmp} {st:St} {K:St->R} {r:List D} (h:qmk E C f args dst st K=some r):
  qbH E.P f args dst st fun st'=>K st'=some r:=by
 have inl:=fun h=>qlZ (f:=f) (args:=args) (dst:=dst) (st:=st) (K:=K) (r:=r) hm hT hfn hC h
 unfold qmk at h
 split at h
 ·rename_i k v hf
  split at h
  ·split at h
   ·rename_i s pend ps asg body cs hk
    split at h
    ·split at h
     ·rename_i hl
      rw [qeV,qey] at h
      have hl':args.length=ps.size:=by rw [<-qaL];exact Nat.eq_of_beq_eq_true hl
      exact qfc hf hk hl' ((hC _ _ _ _ _ h).mono fun e st' hk'=>qka (fun st2 h2=>(hC _ _ _ _ _ h2).mono fun e st' hk=>qnT hk) e st' (qom hk'))
     ·simp at h
    ·simp at h
   ·simp at h
  ·simp at h
 ·split at h
  ·rename_i g cap ds hf hd
   split at h
   ·split at h
    ·rename_i ds' hd'
     split at h
     ·rename_i res hr
      rw [qd8] at h
      exact qsE hf hd' (qdi hm hT hfn horc hC hr) h
     ·simp at h
    ·simp at h
   ·split at h
    ·rename_i res hr
     rw [qd8] at h
     exact qaa hf hd (qdi hm hT hfn horc hC hr) h
    ·exact inl h
  ·rename_i g cap hf hd
   split at h
   ·rename_i k ver b hu
    rw [qd8] at h
    unfold evU at hu
    split at hu
    ·split at hu
     ·rename_i k' ver' rest hss
      split at hu
      ·rename_i ds hds
       split at hu
       ·rename_i v e size bytes xs hk
        split at hu
        ·rename_i hb
         split at hu
         ·rename_i y hy
          simp only [Option.some.injEq,Prod.mk.injEq] at hu
          obtain ⟨rfl,rfl,rfl⟩:=hu
          have:=Nat.eq_of_beq_eq_true hb
          subst this
          exact qqI hf hss hds hk y.2 h
         ·simp at hu
        ·simp at hu
       ·simp at hu
      ·simp at hu
     ·simp at hu
    ·simp at hu
   split at h
   ·refine qf6 (fun st' h=> ?_) _ _ h
    split at h
    ·rename_i g cap ds hf hd
     split at h
     ·rename_i res hr
      rw [qd8] at h
      exact qaa hf hd (qdi hm hT hfn horc hC hr) h
     ·simp at h
    ·simp at h
   ·exact inl h
  ·exact inl h
end
end Go.Nv
end
section
namespace Go.Nv
open Go.RowKit
def ql1(E:Ev):Prop:= ∀(xt:TypeId) (x lo hi m:Operand) (o:Oper) (st:St) (K:St->R) (r:List D),o.op= .slice xt x (some lo) (some hi) (some m)->qvt E xt x lo hi m o st K=some r->OkOp E.P o st fun st'=>K st'=some r
theorem qov{o:Out}{K K':S->Option (Nat×B)->Prop}(hk: ∀s u,K s u->K' s u)(h:qjH o K):qjH o K':=by
 cases o with
 |fail=>exact h
 |val s u=>exact Eq.mpr (qcE _ (fun s=>K' s u)) (hk _ _ (Eq.mp (qcE _ (fun s=>K s u)) h))
 |side b s u=>
  unfold qjH Sd at*
  exact ⟨h.1,hk _ _ h.2⟩
 |idx cells e xs n=>
  unfold qjH qw5 at*
  obtain ⟨x,a,b,c,d⟩:=h
  exact ⟨x,a,b,c,hk _ _ d⟩
 |rld ty agg cells size xs off=>
  unfold qjH qw2 at*
  obtain ⟨i,r,x,d,a,b,c,e,f,g⟩:=h
  exact ⟨i,r,x,d,a,b,c,e,f,hk _ _ g⟩
 |rst cells k v e size bytes xs off d=>
  unfold qjH qv8 at*
  obtain ⟨xs',a,b,c,e,f⟩:=h
  exact ⟨xs',a,b,c,e,hk _ _ f⟩
 |pick z a b=>
  cases z with
  |true=>exact Eq.mpr (qcE _ (fun s=>K' s none)) (hk _ _ (Eq.mp (qcE _ (fun s=>K s none)) h))
  |false=>exact Eq.mpr (qcE _ (fun s=>K' s none)) (hk _ _ (Eq.mp (qcE _ (fun s=>K s none)) h))
 |boo b=>exact hk _ _ h
theorem qko{P:Program}{T:Tb}{mu:Tmp->Bool}{o:Oper}{st:St}{K K':qcn->St->Prop}(hk: ∀l st,K l st->K' l st)(h:qkZ P T mu o st K):qkZ P T mu o st K':=by
 unfold qkZ at h ⊢
 split at h
 ·split at h
  ·skip
   unfold qi2 at h ⊢
   rcases h with ⟨res,a,b⟩|⟨e,size,bytes,res,a,b⟩
   ·exact .inl ⟨res,a,by rw [qaA] at b ⊢;exact hk _ _ b⟩
   ·exact .inr ⟨e,size,bytes,res,a,by rw [qaA] at b ⊢;exact hk _ _ b⟩
  ·unfold ql3 at h ⊢
   rcases h with ⟨rest,ds,k,ver,e,size,bytes,xs,ys,h0,h1,h2,h3,h4,h5⟩|⟨k,ver,e,size,bytes,xs,ds,res,h1,h2,h3,h4,h5⟩
   ·exact .inl ⟨rest,ds,k,ver,e,size,bytes,xs,ys,h0,h1,h2,h3,h4,by rw [qaA] at h5 ⊢;exact hk _ _ h5⟩
   ·exact .inr ⟨k,ver,e,size,bytes,xs,ds,res,h1,h2,h3,h4,by rw [qaA] at h5 ⊢;exact hk _ _ h5⟩
  ·exact h.elim
 ·rw [qhv] at h ⊢
  exact qov (fun s u h=>by rw [qaA] at h ⊢;exact hk _ _ h) h
section
variable {E:Ev} {C:(Tmp->Bool)->Code->St->(Ex->St->R)->R} {mu:Tmp->Bool}
theorem qkL{o:Oper}{st:St}{K:qcn->St->R}{r:List D}(h:qsz E mu o st K=some r):
  qjH (opX E.T (qb8 st.t) (qq3 mu o.dst) (evx st.env) (qcv st.t) o.type o.op) (fun s u=>K ⟨qfZ (evx st.env) o.op,u.map (·.1)⟩ ⟨qdQ st.env o.dst s,qpf st.t u⟩=some r):=by
 unfold qsz at h
 rw [qeV] at h
 simp only [qd8] at h
 exact qlr h
theorem qnV(hsl:ql1 E)(hm:E.P.follows .mixedOrders=true)(hT:qcM E.P E.T)(hfn: ∀g fn,lkO E.fns g=some fn->E.P.funcs[g]? =some fn)(horc: ∀g ds res,E.orc g ds=some res->Fun E.P g ds res)
  (hC: ∀mu c st K r,C mu c st K=some r->Ok E.P c st fun e st'=>K e st'=some r) {o:Oper} {st:St} {K:St->R} {r:List D} (h:qAo E C mu o st K=some r):OkOp E.P o st fun st'=>K st'=some r:=by
 unfold qAo at h
 split at h
 ·rename_i xt x lo hi m hop
  exact hsl xt x lo hi m o st K r hop h
 ·rename_i f args ts hop
  refine qem (T:=E.T) (mu:=mu) hT ?_
  unfold qsV
  rw [hop]
  exact qgj hm hT hfn horc hC h
 ·rename_i h1 h2
  refine qem (T:=E.T) (mu:=mu) hT ?_
  have:=qkL h
  unfold qsV
  split
  ·rename_i f args ts hop;exact absurd hop (h2 _ _ _)
  ·rw [qhv];simp only [qaA];exact this
theorem qkz{ops:List Oper}{o:Oper}{st:St}{a b:R}{r:List D}(h:evG (α:=D) ops o st a b=some r):
  (o.guard=none/\a=some r)\/(∃j want d z,o.guard=some (j,want)/\qhj ops j=some d/\lk st.env d= .d (.v (.bool z))/\((z=want/\a=some r)\/(z≠want/\b=some r)))\/
  (∃j want d,o.guard=some (j,want)/\qhj ops j=some d/\lk st.env d= .tup [] /\b=some r):=by
 unfold evG at h
 split at h
 ·rename_i hg;exact .inl ⟨hg,h⟩
 ·rename_i j want hg
  split at h
  ·rename_i d hd
   split at h
   ·rename_i z hz
    refine .inr (.inl ⟨j,want,d,z,hg,hd,hz, ?_⟩)
    cases z<;>cases want<;>simp at h ⊢ <;>exact h
   ·rename_i hz;exact .inr (.inr ⟨j,want,d,hg,hd,hz,h⟩)
   ·simp at h
  ·simp at h
theorem qoi(hm:E.P.follows .mixedOrders=true)(hT:qcM E.P E.T)(hfn: ∀g fn,lkO E.fns g=some fn->E.P.funcs[g]? =some fn)(horc: ∀g ds res,E.orc g ds=some res->Fun E.P g ds res)
  (hC: ∀mu c st K r,C mu c st K=some r->Ok E.P c st fun e st'=>K e st'=some r) {o:Oper} {st:St} {K:qcn->St->R} {r:List D} (h:qAD E C mu o st K=some r):qkZ E.P E.T mu o st fun l st'=>K l st'=some r:=by
 unfold qAD at h
 unfold qkZ
 split at h
 ·rename_i f args ts hop
  rw [hop]
  simp only
  split at h
  ·rename_i g cap ds hf hd
   split at h
   ·rename_i res hr
    rw [qd8] at h
    simp only [hf,hd]
    unfold qi2
    exact .inl ⟨_,qdi hm hT hfn horc hC hr,Eq.mpr (qaA _ _) h⟩
   ·simp at h
  ·simp at h
 ·rename_i h2
  have:=qkL h
  split
  ·rename_i f args ts hop;exact absurd hop (h2 _ _ _)
  ·rw [qhv];simp only [qaA];exact this
theorem qbQ(hm:E.P.follows .mixedOrders=true)(hT:qcM E.P E.T)(hfn: ∀g fn,lkO E.fns g=some fn->E.P.funcs[g]? =some fn)(horc: ∀g ds res,E.orc g ds=some res->Fun E.P g ds res)
  (hC: ∀mu c st K r,C mu c st K=some r->Ok E.P c st fun e st'=>K e st'=some r) {ops:List Oper}: ∀(l:List Oper) (acc:List qcn) {st:St} {K:List qcn->St->R} {r:List D},qkd E C mu ops l acc st K=some r->qdq E.P E.T mu ops l acc st fun ls st'=>K ls st'=some r
 | [],acc,st,K,r,h=>h
 |o::l,acc,st,K,r,h=>by
  unfold qkd at h
  unfold qdq gdr
  have mono: ∀{K K':qcn->St->Prop},(∀l st,K l st->K' l st)->qkZ E.P E.T mu o st K->qkZ E.P E.T mu o st K':=fun hk hv=>qko hk hv
  have run: ∀h:qAD E C mu o st (fun l' st'=>qkd E C mu ops l (acc++ [l']) st' K)=some r,qkZ E.P E.T mu o st fun l' st'=>qdq E.P E.T mu ops l (acc++ [l']) st' fun ls st'=>K ls st'=some r:=
   fun h=>mono (fun l' st' h'=>qbQ hm hT hfn horc hC l _ h') (qoi hm hT hfn horc hC h)
  rcases qkz h with ⟨hg,ha⟩|⟨j,want,d,z,hg,hd,hz,hh⟩|⟨j,want,d,hg,hd,hz,hb⟩
  ·simp only [hg];exact run ha
  ·simp only [hg,hd,hz]
   have e1:st1 st.env d (.d (.v (.bool z)))=st.env:=qex hz (by simp)
   cases z with
   |true=>
    simp only [cnd,show tt'=S.d (.v (.bool true)) from rfl,e1,qaA]
    rcases hh with ⟨rfl,ha⟩|⟨hne,hb⟩
    ·exact run ha
    ·cases want with
     |true=>exact absurd rfl hne
     |false=>rw [qd8] at hb;exact qbQ hm hT hfn horc hC l _ hb
   |false=>
    simp only [cnd,show ff'=S.d (.v (.bool false)) from rfl,e1,qaA]
    rcases hh with ⟨rfl,ha⟩|⟨hne,hb⟩
    ·exact run ha
    ·cases want with
     |false=>exact absurd rfl hne
     |true=>rw [qd8] at hb;exact qbQ hm hT hfn horc hC l _ hb
  ·simp only [hg,hd,hz,qaA]
   rw [qd8] at hb;exact qbQ hm hT hfn horc hC l _ hb
end
end Go.Nv
end
section
namespace Go.Nv
open Go.RowKit
section
variable {E:Ev} {C:(Tmp->Bool)->Code->St->(Ex->St->R)->R} {mu:Tmp->Bool}
theorem qlg(hsl:ql1 E)(hm:E.P.follows .mixedOrders=true)(hT:qcM E.P E.T)(hfn: ∀g fn,lkO E.fns g=some fn->E.P.funcs[g]? =some fn)(horc: ∀g ds res,E.orc g ds=some res->Fun E.P g ds res)
  (hC: ∀mu c st K r,C mu c st K=some r->Ok E.P c st fun e st'=>K e st'=some r) {ops:Array Oper} {K:St->R} {r:List D} {n:Nat} {old bs:Nat->Prop} {w0:Ctx} {Q:Exit->Act->World->Prop}
  (hK: ∀st' a' W' ι',K st'=some r->Rel old bs w0 ι' st' a' W'->Q .normal a' W'):
  ∀(l:List Oper) (i:Nat) (st:St) (a:Act) (W:World) (ι:Nat->Value),ops.toList.drop i=l->qlN E C mu ops.toList l st K=some r->Rel old bs w0 ι st a W->wpOpsIn (FW w0.r) n E.P ops Q (List.range' i l.length) a W:=by
 intro l
 induction l with
 |nil=>intro i st a W ι _ hv h;exact hK _ _ _ _ hv h
 |cons o l ih=>
  intro i st a W ι hd hv h
  have hoi:ops[i]? =some o:=by
   have:(ops.toList.drop i)[0]? =some o:=by rw [hd];rfl
   simpa using this
  have hd':ops.toList.drop (i+1)=l:=by
   rw [<-List.drop_drop,hd];rfl
  rw [List.length_cons,List.range'_succ]
  simp only [wpOpsIn,hoi]
  unfold qlN at hv
  have dst: ∀{j d},qhj ops.toList j=some d->(ops[j]?).bind (·.dst)=some d:=by
   intro j d hd2
   unfold qhj at hd2
   rw [qbU,Array.getElem?_toList] at hd2
   split at hd2
   ·rename_i oo hoo;rw [hoo];exact hd2
   ·simp at hd2
  have run: ∀hr:qAo E C mu o st (fun st'=>qlN E C mu ops.toList l st' K)=some r,o.wpIn (FW w0.r) n E.P a W (fun a' W'=>wpOpsIn (FW w0.r) n E.P ops Q (List.range' (i+1) l.length) a' W') Q:=
   fun hr=>qnV hsl hm hT hfn horc hC hr _ _ _ _ _ _ _ _ _ h fun st' a' W' ι' hk hrel=>ih (i+1) _ _ _ ι' hd' hk hrel
  have skip: ∀hb:stp st o.dst (.tup []) none (fun st'=>qlN E C mu ops.toList l st' K)=some r,wpOpsIn (FW w0.r) n E.P ops Q (List.range' (i+1) l.length) (a.put o.dst undef) W:=by
   intro hb
   rw [qd8,qbq] at hb
   have:=h.put (dst:=o.dst) (s:= .tup []) (v:=undef) (t:=st.t) (qav.refl h.tok) (qg8 _ _ _ _)
   exact ih (i+1) _ _ _ ι hd' hb this
  rcases qkz hv with ⟨hg,ha⟩|⟨j,want,d,z,hg,hd2,hz,hh⟩|⟨j,want,d,hg,hd2,hz,hb⟩
  ·rw [if_pos (by simp [Region.wanted,hg])]
   exact run ha
  ·have hj:=dst hd2
   have hsd:=h.ev (.tmp d)
   have hb':ev st.env (.tmp d)= .d (.v (.bool z)):=by rw [<-qbc];exact hz
   rw [hb'] at hsd
   have hval:=(qcZ hsd).1
   have hy:yielded ops a.tmps j=some z:=by
    unfold yielded
    rw [hj]
    simp only [Option.bind_some]
    have:a.tmps.getD d undef= .bool z:=hval
    cases hq:a.tmps[d]? with
    |none=>rw [Array.getD_eq_getD_getElem?,hq] at this;simp [undef] at this
    |some q=>rw [Array.getD_eq_getD_getElem?,hq] at this;simp at this;rw [this]
   rcases hh with ⟨hbw,hgo⟩|⟨hbw,hgo⟩
   ·rw [if_pos (by simp [Region.wanted,hg,hy,hbw])]
    exact run hgo
   ·rw [if_neg (by simp [Region.wanted,hg,hy,hbw])]
    exact ⟨fun f _=>FW.fn _ f,skip hgo⟩
  ·have hj:=dst hd2
   have hsd:=h.ev (.tmp d)
   have hb':ev st.env (.tmp d)= .tup [] :=by rw [<-qbc];exact hz
   rw [hb'] at hsd
   have hy:yielded ops a.tmps j=none:=qcB hj (qku hsd)
   rw [if_neg (by simp [Region.wanted,hg,hy])]
   exact ⟨fun f _=>FW.fn _ f,skip hb⟩
end
end Go.Nv
end
section
namespace Go.Nv
open Go.RowKit
theorem qcw{P:Program}{T:Tb}{mu:Tmp->Bool}{ops:List Oper}{K K':List qcn->St->Prop}(hk: ∀ls st,K ls st->K' ls st): ∀{l:List Oper} (acc:List qcn) (st:St),qdq P T mu ops l acc st K->qdq P T mu ops l acc st K'
 | [],acc,st,h=>hk _ _ h
 |o::l,acc,st,h=>by
  unfold qdq gdr at h ⊢
  have run: ∀{st:St},qkZ P T mu o st (fun l' st'=>qdq P T mu ops l (acc++ [l']) st' K)->qkZ P T mu o st (fun l' st'=>qdq P T mu ops l (acc++ [l']) st' K'):=fun h=>qko (fun l' st' h'=>qcw hk _ _ h') h
  split at h
  ·exact run h
  ·rename_i j want hg
   split at h
   ·split at h
    ·rename_i b hb
     cases b<;>cases want<;>simp only [cnd,qaA] at h ⊢ <;>first|exact run h|exact qcw hk _ _ h
    ·rw [qaA] at h ⊢;exact qcw hk _ _ h
    ·exact h.elim
   ·exact h.elim
theorem qnJ{P:Program}{f:Operand}{args:List Operand}{dst:Option Tmp}{st:St}{K K':St->Prop}(hk: ∀st,K st->K' st)(h:qbH P f args dst st K):qbH P f args dst st K':=by
 unfold qbH at*
 intro o ho hd n old bs w0 a W ι Kw Q hr hK
 exact h o ho hd n old bs w0 a W ι Kw Q hr fun st' a' W' ι' hk' hrel=>hK st' a' W' ι' (hk _ hk') hrel
theorem qfC{b:Bool}{k:R}{r:List D}(h:qit b k=some r):b=true/\k=some r:=by
 unfold qit at h
 split at h
 ·exact ⟨rfl,h⟩
 ·simp at h
theorem qjv{st:St}{all:List Oper}: ∀(l:List Oper) (k:Nat) {p:Nat} {y:Oper} {f:Operand} {args:List Operand},(∀i o,l[i]? =some o->all[k+i]? =some o)->qwZ st all l k=some (p,y,f,args)->
  all[p]? =some y/\y.guard=none/\ ∃ts,y.op= .call {callee:= .value f,args:=args.toArray,argTypes:=ts}
 | [],k,p,y,f,args,_,h=>by simp [qwZ] at h
 |o::l,k,p,y,f,args,hl,h=>by
  have hl': ∀i o',l[i]? =some o'->all[k+1+i]? =some o':=fun i o' ho=>by
   have:=hl (i+1) o' (by simpa using ho)
   rwa [show k+1+i=k+(i+1) by omega]
  unfold qwZ at h
  split at h
  ·rename_i d as ts hop hg
   split at h
   ·simp at h
    obtain ⟨rfl,rfl,rfl,rfl⟩:=h
    exact ⟨by simpa using hl 0 o rfl,hg,ts,by rw [hop]⟩
   ·exact qjv l (k+1) hl' h
  ·exact qjv l (k+1) hl' h
theorem qb4{P:Program}{T:Tb}{k:Nat}{cs:List S}{c:Code}{Kp:Ex->St->Prop}{r:List D}{K:St->R}(hk: ∀st,K st=some r->Ok P c st Kp): ∀(fs:List (Nat×TypeId)) (st:St),qsf T k cs fs st K=some r->Ok P c st Kp
 | [],st,h=>hk _ h
 |(off,ty)::fs,st,h=>by
  unfold qsf at h
  split at h
  ·split at h
   ·split at h
    ·split at h
     ·rw [qey] at h
      exact (qb4 hk fs _ h).weak (qmb _ _ _ _ _ st)
     ·exact qb4 hk fs _ h
    ·exact qb4 hk fs _ h
   ·exact qb4 hk fs _ h
  ·exact qb4 hk fs _ h
theorem qiG{P:Program}{T:Tb}{ow:TypeId->Bool}{c:Code}{Kp:Ex->St->Prop}{r:List D}{K:St->R}(hk: ∀st,K st=some r->Ok P c st Kp): ∀(t:List B) (k:Nat) (st:St),qtb T ow t k st K=some r->Ok P c st Kp
 | [],k,st,h=>hk _ h
 |b::bs,k,st,h=>by
  have ih:=fun st h=>qiG (T:=T) (ow:=ow) hk bs (k+1) st h
  unfold qtb at h
  split at h
  ·split at h
   ·split at h
    ·exact qb4 ih _ _ h
    ·split at h
     ·exact qb4 ih _ _ h
     ·exact ih _ h
   ·exact ih _ h
  ·exact ih _ h
theorem qgR{E:Ev}(hsl:ql1 E)(hm:E.P.follows .mixedOrders=true)(hT:qcM E.P E.T)(hfn: ∀g fn,lkO E.fns g=some fn->E.P.funcs[g]? =some fn)(horc: ∀g ds res,E.orc g ds=some res->Fun E.P g ds res):
  ∀(n:Nat) (mu:Tmp->Bool) (c:Code) (st:St) (K:Ex->St->R) (r:List D),evC E n mu c st K=some r->Ok E.P c st (fun e st'=>K e st'=some r)/\ ∀b,c= .loop b->qzM E.P b n st fun e st'=>K e st'=some r:=by
 intro n
 induction n with
 |zero=>intro mu c st K r h;simp [evC] at h
 |succ n ih=>
  intro mu c st K r h
  have ok:=fun mu c st K r h=>(ih mu c st K r h).1
  cases c with
  |skip=>exact ⟨fun n old bs w0 a W ι hr=>wpIn_skip ⟨.normal,st,ι,rfl,h,hr⟩,fun b hb=>by cases hb⟩
  |exit i=>exact ⟨fun n old bs w0 a W ι hr=>wpIn_exit ⟨.exit i,st,ι,rfl,h,hr⟩,fun b hb=>by cases hb⟩
  |ret=>exact ⟨fun n old bs w0 a W ι hr=>wpIn_ret ⟨.ret,st,ι,rfl,h,hr⟩,fun b hb=>by cases hb⟩
  |seq x y=>
   refine ⟨Ok.seq ((ok _ _ _ _ _ h).mono fun e st' hk=> ?_),fun b hb=>by cases hb⟩
   cases e with
   |normal=>exact ok _ _ _ _ _ hk
   |exit i=>exact hk
   |ret=>exact hk
  |block id x=>
   refine ⟨fun n' old bs w0 a W ι hr=>wpIn_block (wpIn_mono (ok _ _ _ _ _ h n' old bs w0 a W ι hr) ?_),fun b hb=>by cases hb⟩
   rintro e a' W' ⟨x',st',ι',rfl,hk,hrel⟩
   cases x' with
   |normal=>exact ⟨.normal,st',ι',rfl,hk,hrel⟩
   |exit i=>
    simp only [Ex.toExit,Exit.inBlock]
    simp only [qDU] at hk
    by_cases hi:i=id
    ·simp only [hi,Nat.beq_refl,if_true] at hk ⊢;exact ⟨.normal,st',ι',rfl,hk,hrel⟩
    ·simp only [if_neg hi,show Nat.beq i id=false by rw [Bool.eq_false_iff];intro h';exact hi (Nat.eq_of_beq_eq_true h')] at hk ⊢;exact ⟨.exit i,st',ι',rfl,hk,hrel⟩
   |ret=>exact ⟨.ret,st',ι',rfl,hk,hrel⟩
  |cond o x y=>
   refine ⟨fun n' old bs w0 a W ι hr=> ?_,fun b hb=>by cases hb⟩
   simp only [evC] at h
   split at h
   ·rename_i z hz
    rw [qbc] at hz
    have hsd:=hr.ev o
    rw [hz] at hsd
    refine wpIn_cond (qcZ hsd).1 ?_
    cases z with
    |true=>exact ok _ _ _ _ _ h n' old bs w0 a W ι hr
    |false=>exact ok _ _ _ _ _ h n' old bs w0 a W ι hr
   ·simp at h
  |loop x=>
   have hN:qzM E.P x (n+1) st fun e st'=>K e st'=some r:=by
    refine (ok _ _ _ _ _ h).mono fun e st' hk=> ?_
    cases e with
    |normal=>exact (ih _ _ _ _ _ hk).2 x rfl
    |exit i=>exact hk
    |ret=>exact hk
   exact ⟨qkr (n+1) hN,fun b hb=>by cases hb;exact hN⟩
  |region id ops draw=>
   refine ⟨?_,fun b hb=>by cases hb⟩
   simp only [evC] at h
   rw [qeV] at h
   refine qiG (fun st h=> ?_) _ _ _ h
   cases draw with
   |false=>
    intro n' old bs w0 a W ι hr
    refine wpIn_region ?_
    have:=qlg (C:=evC E n) (n:=n') (old:=old) (bs:=bs) (w0:=w0) (Q:=qq6 old bs w0 fun e st'=>K e st'=some r) hsl hm hT hfn horc ok (fun st' a' W' ι' hk hrel=>⟨.normal,st',ι',rfl,hk,hrel⟩) ops.toList 0 st a W ι (by simp) h hr
    rw [List.range_eq_range']
    simpa using this
   |true=>
    simp only [qDI] at h
    split at h
    ·refine qlS (mu:=qwS mu ops.toList) hm hT _ _ _ ?_
     have:=qbQ (C:=evC E n) hm hT hfn horc ok _ _ h
     show qdq _ _ _ _ _ _ _ _
     refine qcw (fun ls st' hk=> ?_) _ _ this
     obtain ⟨h1,h2⟩:=qfC hk
     unfold qAK qhz
     exact ⟨h1,h2⟩
    ·rename_i p y f args hy
     obtain ⟨y1,y2,ts,y3⟩:=qjv ops.toList 0 (fun i o ho=>by simpa using ho) hy
     obtain ⟨hmid,h⟩:=qfC h
     refine qmX (T:=E.T) (mu:=qwS mu ops.toList) hm hT p (by simpa using y1) y2 y3 hmid ?_
     refine qcw (fun ls1 st1 hk=> ?_) _ _ (qbQ (C:=evC E n) hm hT hfn horc ok _ _ h)
     obtain ⟨h1,h2⟩:=qfC hk
     unfold qhz
     refine ⟨h1,qnJ (fun st2 hk2=> ?_) (qgj (C:=evC E n) hm hT hfn horc ok h2)⟩
     refine qcw (fun ls3 st3 hk3=> ?_) _ _ (qbQ (C:=evC E n) hm hT hfn horc ok _ _ hk2)
     exact qfC hk3
  |rangeFunc f ps asg body=>
   refine ⟨?_,fun b hb=>by cases hb⟩
   simp only [evC] at h
   split at h
   ·rename_i g cap hcal
    split at h
    ·rename_i fn c hb
     obtain ⟨h1,h2,h3⟩:=qei hfn hb
     split at h
     ·rename_i hres
      rw [qeV,qey] at h
      exact qng hcal h1 h2 h3 (by rw [<-Array.toList_eq_nil_iff];exact hres) ((ok _ _ _ _ _ h).mono fun e st' hk=>qnq hk)
     ·simp at h
    ·simp at h
   ·simp at h
  |_=>simp [evC] at h
end Go.Nv
end
section
namespace Go.Nv
open Go.RowKit
def qoV(args:List D)(e:TypeId)(size bytes:Nat)(xs:List D)(ntmps:Nat):St:=⟨.own 0 0::qdP (qgs args) (qoL (ntmps-(qb8 args+1))), [.row 0 e size bytes xs]⟩
theorem qnH{P:Program}{T:Tb}{g:FuncId}{fn:Func}{c:Code}{args xs ys:List D}{e:TypeId}{size bytes:Nat}(hm:P.follows .mixedOrders=true)(hT:qcM P T)(hf:P.funcs[g]? =some fn)(hb:fn.body=some c)(hn:(fn.name== "runtime.NumGoroutine")=false)
  (hnp:qgd (flat ys)=true) (h:Ok P c (qoV args e size bytes xs fn.ntmps) (qxL fn.results.toList e size ys)):qjN P g e size args xs ys:=by
 have h1: ∀xs ys,qdP xs ys=xs++ys:=by intro xs ys;induction xs<;>simp [qdP, *]
 have h2: ∀ds,qgs ds=ds.map .d:=by intro ds;induction ds<;>simp [qgs, *]
 unfold qoV at h
 rw [h1,h2,qhb,qaL] at h
 refine ⟨⟨fn,hf,by rw [hb];rfl,hn⟩,fun w ok v us0 us hown hden hone hnb hd=> ?_⟩
 refine (callsIn_wide (n:=0)).1 (callsIn_of_wp_marks (F:=FW none) hf hb (FW.fn none g) ?_ rfl)
 let old:Nat->Prop:=fun b=>b<w.heap.size/\blk v≠some b
 let bs:Nat->Prop:=fun b=>ok b\/w.heap.size<=b\/blk v=some b
 let ι0:Nat->Value:=fun k=>if k=0 then v else undef
 have ht0: ∀k,tat [B.row 0 e size bytes xs] (k+1)= .gone:=fun k=>by simp [tat]
 have hok: ∀b,ok b->b<w.heap.size->okT bs (tat [B.row 0 e size bytes xs]) ι0 b:=fun b hb _=>⟨.inl hb,fun k hk hbk=>by
  cases k with
  |zero=>exact hnb b hbk hb
  |succ k=>rw [ht0] at hk;simp [B.live] at hk⟩
 have hrel:Rel old bs ⟨w,fun _=>⟨[],0,0,0⟩,none⟩ ι0 ⟨.own 0 0::(args.map .d++List.replicate (fn.ntmps-(args.length+1)) .top), [.row 0 e size bytes xs]⟩ {tmps:=(v::us).toArray++Array.replicate (fn.ntmps-(v::us).toArray.size) undef,defers:= [] } w:=by
  refine ⟨⟨[],rfl,List.nodup_nil,by simp⟩,fun b hb=>hb.1,Fr.refl _ _,⟨fun b hb=> ?_,fun k=> ?_,fun j k b hj hk _ _=> ?_⟩, ?_,fun k=> ?_,fun j k hj=> ?_,fun l hl=> ?_⟩
  ·by_cases hb':b<w.heap.size
   ·by_cases hv:blk v=some b
    ·exact .inr (.inr hv)
    ·exact absurd ⟨hb',hv⟩ hb
   ·exact .inr (.inl (by omega))
  ·cases k with
   |zero=>exact ⟨us0,hown,hden.keep (fun _ _ _=>rfl) hok,hone,fun b hb ho=>ho.2 hb⟩
   |succ k=>show qhZ _ _ _ _ _ _ (tat [B.row 0 e size bytes xs] (k+1));rw [ht0];trivial
  ·cases j with
   |zero=>
    cases k with
    |zero=>rfl
    |succ k=>rw [show (⟨_, [B.row 0 e size bytes xs]⟩:St).t= [B.row 0 e size bytes xs] from rfl,ht0] at hk;simp [B.live] at hk
   |succ j=>rw [show (⟨_, [B.row 0 e size bytes xs]⟩:St).t= [B.row 0 e size bytes xs] from rfl,ht0] at hj;simp [B.live] at hj
  ·have k1:qao w ι0 (qap (tat [B.row 0 e size bytes xs])) (okT bs (tat [B.row 0 e size bytes xs]) ι0) (args.map .d) us:=qao.ofDen (hd.keep (fun _ _ _=>rfl) hok)
   have k2:qao w ι0 (qap (tat [B.row 0 e size bytes xs])) (okT bs (tat [B.row 0 e size bytes xs]) ι0) (List.replicate (fn.ntmps-(args.length+1)) .top) (List.replicate (fn.ntmps-(us.length+1)) undef):=by
    refine ⟨by simp [hd.1],fun i c u hc hu=> ?_⟩
    rw [List.getElem?_replicate] at hc
    split at hc
    ·simp at hc;subst hc;exact .top
    ·simp at hc
   have k3:=qao.cons (c:= .own 0 0) (u:=v) (.own (qaO rfl) fun _=>rfl) (k1.append k2)
   simpa using k3
  ·cases k with
   |zero=>trivial
   |succ k=>show qdN _ _ _ _ _ _ _ (tat [B.row 0 e size bytes xs] (k+1));rw [ht0];trivial
  ·cases j with
   |zero=>simp [tat,B.isLoop] at hj
   |succ j=>rw [show (⟨_, [B.row 0 e size bytes xs]⟩:St).t= [B.row 0 e size bytes xs] from rfl,ht0] at hj;simp [B.isLoop] at hj
  ·simp at hl
 refine wpIn_mono (h 0 old bs _ _ w _ hrel) ?_
 rintro e' a' W' ⟨x,st,ι,rfl,hfin,hr⟩
 have hx:x= .ret\/x= .normal:=by cases x<;>simp [qxL] at hfin ⊢
 obtain ⟨r,k,ver,bytes',hrs,hlk,hk⟩: ∃r k ver bytes,fn.results.toList= [.tmp r] /\lk st.env r= .own k ver/\tat st.t k= .row ver e size bytes ys:=by
  have hfin:(match fn.results.toList with
   | [.tmp r] =>match lk st.env r with
    | .own k ver=>match qcv st.t k with
     | .row v e' size' _ xs=>ver=v/\e'=e/\size'=size/\xs=ys
     |_=>False
    |_=>False
   |_=>False):=by cases x<;>first|exact hfin.elim|exact hfin
  split at hfin
  ·rename_i r hrs
   split at hfin
   ·rename_i k ver hlk
    rw [qa4] at hfin
    split at hfin
    ·rename_i v' e' size' bytes' xs' hk
     obtain ⟨rfl,rfl,rfl,rfl⟩:=hfin
     exact ⟨r,k,ver,bytes',hrs,hlk,hk⟩
    ·exact hfin.elim
   ·exact hfin.elim
  ·exact hfin.elim
 have hout:=hr.out (n:=0) (P:=P) (fn:=fn) (R:=fun r w'=> ∃v' vs,r= .returned v'/\w'.ownsRow 0 e size v' ys.length vs/\qaN w' (fun b=>(ok b\/w.heap.size<=b)/\blk v'≠some b) (flat ys) vs/\(∀(i:Nat) (u:Value),vs[i]? =some u->u.oneCell'=true)/\
   (∀b,blk v'=some b->blk v=some b\/w.heap.size<=b)/\w.grownBy w' (blk v)) fun W2 hr=>by
  have hs:=hr.ev (.tmp r)
  simp only [ev,Act.eval] at hs
  rw [qkk] at hlk
  rw [hlk] at hs
  have hv:=qcm hs (qa9 hk)
  have hrun:(results fn a'.tmps).run P W2= .ok (ι k) W2:=by
   have e1:results fn a'.tmps=(do let vs<-fn.results.mapM (qbB a'.tmps);pure (if h:vs.size=1 then vs[0] else .tuple vs)):=rfl
   have e2:fn.results.mapM (qbB a'.tmps)=List.toArray<$>fn.results.toList.mapM (qbB a'.tmps):=by
    rw [Array.mapM_eq_mapM_toList]
   rw [e1,e2,hrs]
   simp [qbB,hv]
  have he:=hr.tok.ent k
  rw [hk] at he
  obtain ⟨vs,ho,hden,h1,hnew⟩:=he
  have hbv: ∀b,blk (ι k)=some b->blk v=some b\/w.heap.size<=b:=fun b hb=>by
   by_cases hv:blk v=some b
   ·exact .inl hv
   ·refine .inr (Nat.le_of_not_lt fun hlt=>hnew b hb ⟨hlt,hv⟩)
  have hden':qaN W2 (fun b=>(ok b\/w.heap.size<=b)/\blk (ι k)≠some b) (flat ys) vs:=hden.free hnp
  exact ⟨ι k,hrun,ι k,vs,rfl,ho,hden',h1,hbv,⟨hr.fr.os,hr.fr.tape,hr.fr.output,hr.fr.size,fun b hb hne=>hr.fr.block b ⟨hb,fun e=>hne e.symm⟩⟩⟩
 rcases hx with rfl|rfl
 ·exact hout
 ·exact hout
section
variable (E:Ev) (C:(Tmp->Bool)->Code->St->(Ex->St->R)->R)
def qxC(g:FuncId)(e:TypeId)(size bytes:Nat)(xs ds:List D):R:=match qii E g with
 |some (fn,c)=>C (E.mu g) c (qoV ds e size bytes xs fn.ntmps) fun x st=>match x with
  | .exit _=>none
  |_=>match fn.results.toList with
   | [.tmp r] =>match lk st.env r with
    | .own k ver=>match qcv st.t k with
     | .row v e' size' _ ys=>match Nat.beq ver v&&(Nat.beq e' e&&Nat.beq size' size) with
      |true=>some ys
      |false=>none
     |_=>none
    |_=>none
   |_=>none
 |none=>none
end
theorem qnB{E:Ev}{C:(Tmp->Bool)->Code->St->(Ex->St->R)->R}(hm:E.P.follows .mixedOrders=true)(hT:qcM E.P E.T)(hfn: ∀g fn,lkO E.fns g=some fn->E.P.funcs[g]? =some fn)
  (hC: ∀mu c st K r,C mu c st K=some r->Ok E.P c st fun e st'=>K e st'=some r) {g:FuncId} {e:TypeId} {size bytes:Nat} {xs ds ys:List D} (hnp:qgd (flat ys)=true) (h:qxC E C g e size bytes xs ds=some ys):qjN E.P g e size ds xs ys:=by
 unfold qxC at h
 split at h
 ·rename_i fn c hb
  obtain ⟨h1,h2,h3⟩:=qei hfn hb
  refine qnH (bytes:=bytes) hm hT h1 h2 h3 hnp ((hC _ _ _ _ _ h).mono fun x st hk=> ?_)
  have key: ∀x,x= .normal\/x= .ret->(match fn.results.toList with
   | [.tmp r] =>match lk st.env r with
    | .own k ver=>match qcv st.t k with
     | .row v e' size' _ ys=>match Nat.beq ver v&&(Nat.beq e' e&&Nat.beq size' size) with
      |true=>some ys
      |false=>none
     |_=>none
    |_=>none
   |_=>none)=some ys->qxL fn.results.toList e size ys x st:=by
   intro x hx hk
   have:(match fn.results.toList with
    | [.tmp r] =>match lk st.env r with
     | .own k ver=>match qcv st.t k with
      | .row v e' size' _ xs=>ver=v/\e'=e/\size'=size/\xs=ys
      |_=>False
     |_=>False
    |_=>False):=by
    split at hk
    ·split at hk
     ·split at hk
      ·split at hk
       ·rename_i hb2
        simp only [Bool.and_eq_true] at hb2
        simp at hk
        exact ⟨Nat.eq_of_beq_eq_true hb2.1,Nat.eq_of_beq_eq_true hb2.2.1,Nat.eq_of_beq_eq_true hb2.2.2,hk⟩
       ·simp at hk
      ·simp at hk
     ·simp at hk
    ·simp at hk
   rcases hx with rfl|rfl<;>exact this
  cases x with
  |exit i=>simp at hk
  |normal=>exact key _ (.inl rfl) hk
  |ret=>exact key _ (.inr rfl) hk
 ·simp at h
end Go.Nv
end
section
namespace Go.Nv
open Go.RowKit
theorem qlX{P:Program}{W:World}{len cap l h m:Nat}(h1:l<=h)(h2:h<=m)(h3:m<=cap):
  (Instr.sliceBounds true len cap (some (.int .i64 (l:Int))) (some (.int .i64 (h:Int))) (some (.int .i64 (m:Int)))).run P W= .ok (l,h,m) W:=by
 have hb: ∀(n y:Nat) (code:BoundsCode),n<=y->(Instr.sliceBound (.int .i64 (n:Int)) y code).run P W= .ok n W:=by
  intro n y code g1
  have g2:(n:Int)<=(y:Int):=by omega
  simp [Instr.sliceBound,asIntOf,g2]
 unfold Instr.sliceBounds
 simp [hb m cap _ h3,hb h m _ h2,hb l h _ h1]
theorem qfq{E:Ev}(hT:qcM E.P E.T):ql1 E:=by
 intro xt x lo hi m o st K r hop hv
 unfold qvt at hv
 split at hv
 ·rename_i xs l h mm e1 e2 e3 e4
  split at hv
  ·rename_i i hi'
   split at hv
   ·rename_i ee hee
    split at hv
    ·rename_i j hj
     split at hv
     ·rename_i ht
      simp only [Bool.and_eq_true] at ht
      obtain ⟨t1,t2,t3,t4,t5⟩:=ht
      rw [Nat.blt_eq] at t1
      rw [Nat.ble_eq] at t2 t3 t4
      rw [qaL] at t4
      rw [qbE] at t5
      rw [qd8,qbq,qeK] at hv
      have het:qbo E.P xt=some ee:=by
       rcases (hT _ _ hi').elem with h0|h0
       ·rw [h0] at hee;simp at hee
       ·rw [h0,hee]
      have hcl:=(hT _ _ hj).cells
      rw [<-hcl] at t1 t5
      intro n old bs w0 a W ι Kw Q hr hK
      have hxx:=hr.ev x
      have hx2:=hr.ev lo
      have hx3:=hr.ev hi
      have hx4:=hr.ev m
      rw [qbc] at e1 e2 e3 e4
      rw [e1] at hxx
      rw [e2] at hx2
      rw [e3] at hx3
      rw [e4] at hx4
      refine qcV hr (val:= .d (.l (qco xs l h))) (upd:=none) ?_ (by intro c hc;rw [hop] at hc;cases hc) fun a' W' ι' _ hrel=>hK _ _ _ ι' hv hrel
      obtain ⟨A,cap,hvv,hcap,hcm,hAn,hrow⟩:=qwi hxx
      have hut:=qbx het
      have v2:=(qcZ hx2).1
      have v3:=(qcZ hx3).1
      have v4:=(qcZ hx4).1
      have hb:=qlX (P:=E.P) (W:=W) (len:=xs.length) (cap:=cap) t2 t3 (by omega)
      have hrun:(execOp a.eval o).run E.P W= .ok (.value (.slice (if mm=l then A else A.map (·.add (l*E.P.cellsOf ee))) (h-l) (mm-l))) W:=by
       simp [execOp,hop,Instr.sliceAt,Instr.slice,underlying,hut,hvv,v2,v3,v4,hb,qbk (Nat.ne_of_gt t1)]
      refine qa8.pure hr.tok hrun ?_
      have hlen:(qco xs l h).length=h-l:=by simp [qco];omega
      by_cases hz:h-l=0
      ·have e0:qco xs l h= [] :=List.eq_nil_of_length_eq_zero (by omega)
       rw [e0,hz]
       refine .d (.l0 (by omega) fun hn=> ?_)
       split at hn
       ·omega
       ·have:=hAn (by simpa using hn);omega
      ·rw [<-hlen]
       have hne:flat xs≠ [] :=by
        intro hn
        have h2:=qbh t5
        rw [hn] at h2
        have:0<xs.length*E.P.cellsOf ee:=Nat.mul_pos (by omega) t1
        simp at h2;omega
       obtain ⟨b,off,us,rfl,hne',hok,hc,hd,h1'⟩:=hrow hne
       rw [if_neg (by omega)]
       simp only [Option.map_some,qbN]
       have hut2:Uni (E.P.cellsOf ee) (xs.take h):=fun y hy=>t5 y (List.mem_of_mem_take hy)
       have e1':flat (qco xs l h)=((flat xs).take (h*E.P.cellsOf ee)).drop (l*E.P.cellsOf ee):=by unfold qco;rw [qdm hut2,qd9 t5]
       have e2':=(hd.take (h*E.P.cellsOf ee)).drop (l*E.P.cellsOf ee)
       rw [<-e1'] at e2'
       have hfl:=qbh (size:=E.P.cellsOf ee) (xs:=qco xs l h) (fun y hy=>hut2 y (List.mem_of_mem_drop hy))
       refine .d (.l ?_ e2'.1 hok ?_ e2'.2 ?_ (by omega) (by omega))
       ·intro hn
        have:=e2'.1
        rw [hn,hfl,hlen] at this
        have:0<(h-l)*E.P.cellsOf ee:=Nat.mul_pos (by omega) t1
        simp at*;omega
       ·intro i u hu'
        rw [List.getElem?_drop,List.getElem?_take] at hu'
        split at hu'
        ·have:=hc _ _ hu'
         rwa [show off+(l*E.P.cellsOf ee+i)=off+l*E.P.cellsOf ee+i from by omega] at this
        ·simp at hu'
       ·exact qfS h1' fun u hu'=>List.mem_of_mem_take (List.mem_of_mem_drop hu')
     ·simp at hv
    ·simp at hv
   ·simp at hv
  ·simp at hv
 ·simp at hv
end Go.Nv
end
