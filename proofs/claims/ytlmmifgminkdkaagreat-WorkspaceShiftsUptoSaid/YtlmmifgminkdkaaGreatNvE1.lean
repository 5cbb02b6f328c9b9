import Derived.Test.YtlmmifgminkdkaaGreatNvN6
import Derived.Test.YtlmmifgminkdkaaGreatNvN5
set_option linter.all false
set_option maxRecDepth 100000
section
namespace Go.Nv
open Go.RowKit
abbrev R:=Option (List D)
def fB(b:Bool)(K:Bool->R):R:=match b with|true=>K true|false=>K false
def fN(n:Nat)(K:Nat->R):R:=match n with|0=>K 0|n+1=>K (n+1)
def fI(n:Int)(K:Int->R):R:=match n with| .ofNat n=>fN n fun n=>K (.ofNat n)| .negSucc n=>fN n fun n=>K (.negSucc n)
def fL{β:Type}(f:β->(β->R)->R):List β->(List β->R)->R
 | [],K=>K []
 |x::xs,K=>f x fun x=>fL f xs fun xs=>K (x::xs)
def fU(b:UInt8)(K:UInt8->R):R:=fN b.toNat fun n=>K (UInt8.ofNat n)
def fV(v:Value)(K:Value->R):R:=match v with
 | .bool b=>fB b fun b=>K (.bool b)
 | .int k n=>fI n fun n=>K (.int k n)
 | .string s=>fL fU s.data.toList fun l=>K (.string ⟨l.toArray⟩)
 |v=>K v
def fD:Nat->D->(D->R)->R
 |0,d,K=>K d
 |n+1,d,K=>match d with
  | .v x=>fV x fun x=>K (.v x)
  | .a cs=>fL (fD n) cs fun cs=>K (.a cs)
  | .l cs=>fL (fD n) cs fun cs=>K (.l cs)
  | .p off cs=>fN off fun off=>fL (fD n) cs fun cs=>K (.p off cs)
  | .f g cs=>fL (fD n) cs fun cs=>K (.f g cs)
def fS:Nat->S->(S->R)->R
 |0,s,K=>K s
 |n+1,s,K=>match s with
  | .d x=>fD 8 x fun x=>K (.d x)
  | .ptr a b c=>fN a fun a=>fN b fun b=>fN c fun c=>K (.ptr a b c)
  | .own a b=>fN a fun a=>fN b fun b=>K (.own a b)
  | .clo g cs=>fL (fS n) cs fun cs=>K (.clo g cs)
  | .tup cs=>fL (fS n) cs fun cs=>K (.tup cs)
  | .agg cs=>fL (fS n) cs fun cs=>K (.agg cs)
  | .top=>K .top
def fK(b:B)(K:B->R):R:=match b with
 | .box t cs=>fL (fS 6) cs fun cs=>K (.box t cs)
 | .row v e s y xs=>fN v fun v=>fL (fD 8) xs fun xs=>K (.row v e s y xs)
 | .dead=>K .dead
 | .gone=>K .gone
 | .ghost cs=>K (.ghost cs)
 | .loop s p ps asg body cs=>K (.loop s p ps asg body cs)
def fE{β:Type}:List β->(List β->R)->R:=fL fun x K=>K x
theorem qAU(b:Bool)(K:Bool->R):fB b K=K b:=by cases b<;>rfl
theorem qeX(n:Nat)(K:Nat->R):fN n K=K n:=by cases n<;>rfl
theorem qCx(n:Int)(K:Int->R):fI n K=K n:=by cases n<;>simp [fI,qeX]
theorem qe7{β:Type}{f:β->(β->R)->R}(h: ∀x K,f x K=K x): ∀(l:List β) (K:List β->R),fL f l K=K l
 | [],K=>rfl
 |x::xs,K=>by rw [fL,h,qe7 h xs]
theorem qCD(b:UInt8)(K:UInt8->R):fU b K=K b:=by simp [fU,qeX]
theorem qEb(v:Value)(K:Value->R):fV v K=K v:=by
 unfold fV
 split
 ·rw [qAU]
 ·rw [qCx]
 ·rw [qe7 qCD]
 ·rfl
theorem qlJ: ∀(n:Nat) (d:D) (K:D->R),fD n d K=K d
 |0,d,K=>rfl
 |n+1,d,K=>by
  unfold fD
  split
  ·rw [qEb]
  ·rw [qe7 (qlJ n)]
  ·rw [qe7 (qlJ n)]
  ·rw [qeX,qe7 (qlJ n)]
  ·rw [qe7 (qlJ n)]
theorem qoz: ∀(n:Nat) (s:S) (K:S->R),fS n s K=K s
 |0,s,K=>rfl
 |n+1,s,K=>by
  unfold fS
  split
  ·rw [qlJ]
  ·rw [qeX,qeX,qeX]
  ·rw [qeX,qeX]
  ·rw [qe7 (qoz n)]
  ·rw [qe7 (qoz n)]
  ·rw [qe7 (qoz n)]
  ·rfl
theorem qys(b:B)(K:B->R):fK b K=K b:=by
 unfold fK
 split<;>first|rfl|rw [qe7 (qoz 6)] |rw [qeX,qe7 (qlJ 8)]
theorem qtw{β:Type}(l:List β)(K:List β->R):fE l K=K l:=qe7 (fun _ _=>rfl) l K
def stp(st:St)(dst:Option Tmp)(s:S)(u:Option (Nat×B))(K:St->R):R:=
 fS 8 s fun s=>fE (qd2 st.env dst s) fun env=>match u with
  |none=>K ⟨env,st.t⟩
  |some (k,b)=>fN k fun k=>fK b fun b=>fE (qaX st.t k b) fun t=>K ⟨env,t⟩
theorem qel(st:St)(dst:Option Tmp)(s:S)(u:Option (Nat×B))(K:St->R):stp st dst s u K=K ⟨qd2 st.env dst s,qqr st.t u⟩:=by
 unfold stp
 rw [qoz,qtw]
 split
 ·rfl
 ·rw [qeX,qys,qtw];rfl
def fSt(st:St)(K:St->R):R:=fE st.env fun env=>fE st.t fun t=>K ⟨env,t⟩
theorem qeK(st:St)(K:St->R):fSt st K=K st:=by unfold fSt;rw [qtw,qtw]
def qv1(o:Out)(Kv:S->Option (Nat×B)->R):R:=
 match o with
 | .fail=>none
 | .val s u=>Kv s u
 | .side b s u=>match b with|true=>Kv s u|false=>none
 | .idx cells e xs n=>match n with
  | .ofNat m=>match qhu cells xs with
   |true=>match lkO xs m with|some x=>Kv (.d (.p 0 x.cells)) none|none=>none
   |false=>none
  | .negSucc _=>none
 | .rld ty agg cells size xs off=>match Nat.blt 0 size with
  |true=>match qhu size xs with
   |true=>match lkO xs (off/size) with
    |some x=>match qoW agg cells x.cells (off%size) with|some d=>Kv (.d d) none|none=>none
    |none=>none
   |false=>none
  |false=>none
 | .rst cells k v e size bytes xs off d=>match Nat.blt 0 size with
  |true=>match qhu size xs with
   |true=>match Nat.beq (qcm d.cells) cells with
    |true=>match qdj size xs off d.cells with|some xs'=>Kv .top (some (k,.row v e size bytes xs'))|none=>none
    |false=>none
   |false=>none
  |false=>none
 | .pick z a b=>match z with|true=>Kv a none|false=>Kv b none
 | .boo b=>fB b fun b=>Kv (.d (.v (.bool b))) none
def nlD:Nat->D->D
 |0,d=>d
 |n+1,d=>match d with
  | .v (.slice none 0 0)=> .l []
  | .a cs=> .a (qbu (nlD n) cs)
  | .l cs=> .l (qbu (nlD n) cs)
  | .p off cs=> .p off (qbu (nlD n) cs)
  | .f g cs=> .f g (qbu (nlD n) cs)
  |d=>d
structure Ev where
 P:Program
 T:Tb
 fns:List Func
 mu:FuncId->Tmp->Bool
 orc:FuncId->List D->Option (List D)
 own:TypeId->Bool
 frz:FuncId->Bool
 raw:FuncId->Bool
 orcU:(g:FuncId)->(e:TypeId)->(size:Nat)->(ds xs:List D)->Option {ys:List D//qna P g e size ds xs ys}
def qEw(b:Bool)(ds:List D):List D:=match b with|true=>ds|false=>qbu (nlD 8) ds
def qyO(T:Tb)(st:St):List ResultVar->R
 | [] =>some []
 |r::rs=>match qBf T st r with|some d=>(match qyO T st rs with|some ds=>some (d::ds)|none=>none)|none=>none
def qiY(E:Ev)(g:FuncId):Option (Func×Code):=match lkO E.fns g with
 |some fn=>match fn.body with|some c=>(match fn.name== "runtime.NumGoroutine" with|true=>none|false=>some (fn,c))|none=>none
 |none=>none
section
variable (E:Ev) (C:(Tmp->Bool)->Code->St->(Ex->St->R)->R) (mu:Tmp->Bool)
def evF(g:FuncId)(ds0:List D):R:=fL (fD 8) (qEw (E.raw g) ds0) fun ds=>match E.orc g ds with
 |some r=>some r
 |none=>match qiY E g with
  |some (fn,c)=>C (E.mu g) c (qeO ds fn.ntmps) fun e st=>match e with| .exit _=>none|_=>qyO E.T st fn.results.toList
  |none=>none
def qEa(rs:List ResultVar)(k:Nat)(dst:Option Tmp)(K:St->R)(e:Ex)(st:St):R:=
 match e with
 | .exit _=>none
 |_=>match qiq E.T st rs with
  |some ss=>match qcY st.t k with
   | .ghost cs=>fSt ⟨qd2 cs dst (qAX ss),qaX st.t k .dead⟩ K
   |_=>none
  |none=>none
def qDh(k:Nat)(K:Ex->St->R)(e:Ex)(st:St):R:=
 match e with
 | .exit _=>none
 |_=>match qcY st.t k with
  | .loop s pend _ _ _ cs=>match s,pend with
   | .ready,none=>fSt ⟨cs,qaX st.t k .dead⟩ (K .normal)
   | .done,some (.exit i)=>fSt ⟨cs,qaX st.t k .dead⟩ (K (.exit i))
   | .done,some .ret=>fSt ⟨cs,qaX st.t k .dead⟩ (K .ret)
   |_,_=>none
  |_=>none
def qE5(k:Nat)(K:St->R)(e:Ex)(st:St):R:=
 match e with
 | .normal=>match qcY st.t k with
  | .loop s pend ps asg body cs=>match s with
   | .ready=>fSt ⟨st.env,qaX st.t k (.loop .busy pend ps asg body cs)⟩ K
   |_=>none
  |_=>none
 |_=>none
def qCL(k kk:Nat)(dst:Option Tmp)(K:St->R)(e:Ex)(st:St):R:=
 match qcY st.t kk with
 | .ghost env=>match qcY st.t k with
  | .loop s p ps asg body cs=>match s with
   | .busy=>match e with
    | .normal=>fSt ⟨qd2 env dst tt',qaX (qaX st.t k (.loop .ready none ps asg body cs)) kk .dead⟩ K
    | .exit i=>fSt ⟨qd2 env dst ff',qaX (qaX st.t k (.loop .done (some (.exit i)) ps asg body cs)) kk .dead⟩ K
    | .ret=>fSt ⟨qd2 env dst ff',qaX (qaX st.t k (.loop .done (some .ret) ps asg body cs)) kk .dead⟩ K
   |_=>none
  |_=>none
 |_=>none
def qp2(f:S)(args:List Operand)(dst:Option Tmp)(st:St)(K:St->R):R:=match qcz f with
 |some (g,cap)=>match qiY E g with
  |some (fn,c)=>fN (qcm st.t) fun kk=>fSt ⟨qd1 (qd1 (qbu (evx st.env) args) cap) (qq2 (fn.ntmps-(qcm args+qcm cap))),qaX st.t kk (.ghost st.env)⟩ fun st'=>C (E.mu g) c st' (qEa E fn.results.toList kk dst K)
  |none=>none
 |none=>none
def qDn(st:St)(K:St->R):R:=fL (fS 8) st.env fun env=>fL fK st.t fun t=>K ⟨env,t⟩
def qyg:List S->St->(St->R)->R
 | [],st,K=>qDn st K
 |s::ss,st,K=>match s with
  | .own k _=>qyg ss (qsV k st) K
  |_=>qyg ss st K
def evU(g:FuncId)(cap:List D)(ss:List S)(st:St):Option (Nat×Nat×B):=match cap with
 | [] =>match ss with
  | .own k ver::rest=>match qdY rest with
   |some ds=>match qcY st.t k with
    | .row v e size bytes xs=>match Nat.beq v ver with
     |true=>match E.orcU g e size ds xs with
      |some y=>some (k,ver,.row (ver+1) e size bytes y.1)
      |none=>none
     |false=>none
    |_=>none
   |none=>none
  |_=>none
 |_=>none
def evn(env:List S):Operand->S
 | .const (.slice none 0 0)=> .d (.v (.slice none 0 0))
 |x=>evx env x
def qm9(f:Operand)(args:List Operand)(dst:Option Tmp)(st:St)(K:St->R):R:=
 match evx st.env f with
 | .own k v=>match v with
  |0=>match qcY st.t k with
   | .loop s pend ps asg body cs=>match s with
    | .ready=>match Nat.beq (qcm args) ps.size with
     |true=>fN (qcm st.t) fun kk=>fSt ⟨qrV ps.toList (qbu (evx st.env) args) cs,qaX st.t kk (.ghost st.env)⟩ fun st'=>
       C (fun _=>false) asg st' (qE5 k fun st2=>C (fun _=>false) body st2 (qCL k kk dst K))
     |false=>none
    |_=>none
   |_=>none
  |_=>none
 |fv=>match fv,qdY (args.map (evx st.env)) with
  | .d (.f g cap),some ds=>match E.raw g with
   |true=>match qdY (args.map (evn st.env)) with
    |some ds=>match evF E C g (ds++cap) with
     |some res=>stp st dst (qj4 (qbu (nlD 8) res)) none K
     |none=>none
    |none=>none
   |false=>match evF E C g (ds++cap) with
    |some res=>stp st dst (qj4 (qbu (nlD 8) res)) none K
    |none=>qp2 E C fv args dst st K
  | .d (.f g cap),none=>match evU E g cap (args.map (evx st.env)) st with
   |some (k,ver,b)=>stp st dst (.own k (ver+1)) (some (k,b)) K
   |none=>match E.frz g with
    |true=>qyg (qbu (evx st.env) args) st fun st'=>match evx st'.env f,qdY (args.map (evx st'.env)) with
     | .d (.f g cap),some ds=>match evF E C g (ds++cap) with
      |some res=>stp st' dst (qj4 (qbu (nlD 8) res)) none K
      |none=>none
     |_,_=>none
    |false=>qp2 E C fv args dst st K
  |_,_=>qp2 E C fv args dst st K
def qsD(o:Oper)(st:St)(K:qcN->St->R):R:=
 fN (qcm st.t) fun k0=>qv1 (opX E.T k0 (qr1 mu o.dst) (evx st.env) (qcY st.t) o.type o.op) fun s u=>stp st o.dst s u (K ⟨qgo (evx st.env) o.op,u.map (·.1)⟩)
def qvO(xt:TypeId)(x lo hi m:Operand)(o:Oper)(st:St)(K:St->R):R:=
 match evx st.env x,evx st.env lo,evx st.env hi,evx st.env m with
 | .d (.l xs),.d (.v (.int .i64 (.ofNat l))),.d (.v (.int .i64 (.ofNat h))),.d (.v (.int .i64 (.ofNat m)))=>match qg9 E.T xt with
  |some i=>match i.elem with
   |some e=>match qg9 E.T e with
    |some j=>match Nat.blt 0 j.cells&&(Nat.ble l h&&(Nat.ble h m&&(Nat.ble m (qcm xs)&&qhu j.cells xs))) with
     |true=>stp st o.dst (.d (.l (qcu xs l h))) none K
     |false=>none
    |none=>none
   |none=>none
  |none=>none
 |_,_,_,_=>none
def qBM(o:Oper)(st:St)(K:St->R):R:=match o.op with
 | .slice xt x (some lo) (some hi) (some m)=>qvO E xt x lo hi m o st K
 | .call {callee:= .value f,args,.. }=>qm9 E C f args.toList o.dst st K
 |_=>qsD E mu o st fun _=>K
def qBS(o:Oper)(st:St)(K:qcN->St->R):R:=match o.op with
 | .call {callee:= .value f,args,.. }=>match evx st.env f,qdY (args.toList.map (evx st.env)) with
  | .d (.f g cap),some ds=>match evF E C g (ds++cap) with
   |some res=>stp st o.dst (qj4 (qbu (nlD 8) res)) none (K ⟨[],none⟩)
   |none=>none
  |_,_=>none
 |_=>qsD E mu o st K
def evG{α:Type}(ops:List Oper)(o:Oper)(st:St)(run:R)(skip:R):R:=match o.guard with
 |none=>run
 |some (j,want)=>match qhv ops j with
  |some d=>match lk st.env d with
   | .d (.v (.bool b))=>match b,want with
    |true,true=>run
    |false,false=>run
    |_,_=>skip
   | .tup [] =>skip
   |_=>none
  |none=>none
def ql9(ops:List Oper):List Oper->St->(St->R)->R
 | [],st,K=>K st
 |o::rest,st,K=>evG (α:=D) ops o st (qBM E C mu o st fun st'=>ql9 ops rest st' K) (stp st o.dst (.tup []) none fun st'=>ql9 ops rest st' K)
def qkh(ops:List Oper):List Oper->List qcN->St->(List qcN->St->R)->R
 | [],acc,st,K=>K acc st
 |o::rest,acc,st,K=>evG (α:=D) ops o st (qBS E C mu o st fun l st'=>qkh ops rest (acc++ [l]) st' K) (stp st o.dst (.tup []) none fun st'=>qkh ops rest (acc++ [⟨[],none⟩]) st' K)
def qyh(st:St)(ops:List Oper):List Oper->Nat->Option (Nat×Oper×Operand×List Operand)
 | [],_=>none
 |o::rest,p=>match o.op,o.guard with
  | .call {callee:= .value (.tmp d),args,.. },none=>
   match ops.any fun q=>match q.dst,q.op with
    |some d',.move (.tmp e)=>match Nat.beq d d' with|true=>(match lk st.env e with| .own _ _=>true|_=>false)|false=>false
    |_,_=>false with
   |true=>some (p,o,.tmp d,args.toList)
   |false=>qyh st ops rest (p+1)
  |_,_=>qyh st ops rest (p+1)
def qja(b:Bool)(k:R):R:=match b with|true=>k|false=>none
def qFz(ops:Array Oper)(st:St)(K:St->R):R:=match qyh st ops.toList ops.toList 0 with
 |none=>qkh E C mu ops.toList ops.toList [] st fun ls st'=>qja (qgN ops ls) (K st')
 |some (p,y,f,args)=>qja (qwY ops p) (qkh E C mu ops.toList (ops.toList.take p) [] st fun ls1 st1=>qja (qgN ops (ls1++qve (ops.size-p)))
   (qm9 E C f args y.dst st1 fun st2=>qkh E C mu ops.toList (ops.toList.drop (p+1)) (qve (p+1)) st2 fun ls3 st3=>qja (qgN ops ls3) (K st3)))
end
def qx9(mu:Tmp->Bool):List Oper->Tmp->Bool
 | [],t=>mu t
 |o::rest,t=>match o.op,o.dst with
  | .alloc _,some d=>match Nat.beq d t with|true=>true|false=>qx9 mu rest t
  |_,_=>qx9 mu rest t
def qtE(T:Tb)(k:Nat)(cs:List S):List (Nat×TypeId)->St->(St->R)->R
 | [],st,K=>K st
 |(off,ty)::fs,st,K=>match lk cs off with
  | .d (.v (.slice none 0 0))=>match qg9 T ty with
   |some i=>match i.elem with
    |some e=>match qg9 T e with
     |some j=>fSt (qr8 k off e j.cells j.bytes st) fun st=>qtE T k cs fs st K
     |none=>qtE T k cs fs st K
    |none=>qtE T k cs fs st K
   |none=>qtE T k cs fs st K
  |_=>qtE T k cs fs st K
def qu8(T:Tb)(ow:TypeId->Bool):List B->Nat->St->(St->R)->R
 | [],_,st,K=>K st
 |b::bs,k,st,K=>match b with
  | .box ty cs=>match qg9 T ty with
   |some i=>match i.elem with
    |some _=>qtE T k cs [(0,ty)] st fun st=>qu8 T ow bs (k+1) st K
    |none=>match ow ty with
     |true=>qtE T k cs i.fields st fun st=>qu8 T ow bs (k+1) st K
     |false=>qu8 T ow bs (k+1) st K
   |none=>qu8 T ow bs (k+1) st K
  |_=>qu8 T ow bs (k+1) st K
def qyr{β:Type}:Nat->List β->List β
 |0,l=>l
 |n+1,l=>match l with| [] => [] |_::l=>qyr n l
def qFu(id:Nat)(K:Ex->St->R)(e:Ex)(st:St):R:=match e with
 | .exit i=>match Nat.beq i id with|true=>K .normal st|false=>K (.exit i) st
 | .normal=>K .normal st
 | .ret=>K .ret st
def evC(E:Ev):Nat->(Tmp->Bool)->Code->St->(Ex->St->R)->R
 |0,_,_,_,_=>none
 |n+1,mu,c,st,K=>match c with
  | .skip=>K .normal st
  | .exit i=>K (.exit i) st
  | .ret=>K .ret st
  | .seq a b=>evC E n mu a st fun e st'=>match e with
   | .normal=>evC E n mu b st' K
   | .exit i=>K (.exit i) st'
   | .ret=>K .ret st'
  | .block id b=>evC E n mu b st (qFu id K)
  | .cond c a b=>match evx st.env c with
   | .d (.v (.bool z))=>match z with|true=>evC E n mu a st K|false=>evC E n mu b st K
   |_=>none
  | .loop b=>evC E n mu b st fun e st'=>match e with
   | .normal=>evC E n mu (.loop b) st' K
   | .exit i=>K (.exit i) st'
   | .ret=>K .ret st'
  | .region id ops draw=>fN (Nat.sub (qcm st.t) 8) fun k0=>qu8 E.T E.own (qyr k0 st.t) k0 st fun st=>match draw with
   |true=>qFz E (evC E n) (qx9 mu ops.toList) ops st (K .normal)
   |false=>ql9 E (evC E n) (qx9 mu ops.toList) ops.toList ops.toList st (K .normal)
  | .rangeFunc f ps asg body=>match qcz (evx st.env f) with
   |some (g,cap)=>match qiY E g with
    |some (fn,c)=>match fn.results.toList with
     | [] =>fN (qcm st.t) fun k=>fSt ⟨.own k 0::qd1 cap (qq2 (fn.ntmps-(1+qcm cap))),qaX st.t k (.loop .ready none ps asg body st.env)⟩ fun st'=>evC E n (E.mu g) c st' (qDh k K)
     |_=>none
    |none=>none
   |none=>none
  |_=>none
end Go.Nv
end
section
namespace Go.Nv
open Go.RowKit
theorem qmk{o:Out}{Kv:S->Option (Nat×B)->R}{r:List D}(h:qv1 o Kv=some r):qka o (fun s u=>Kv s u=some r):=by
 unfold qv1 at h
 split at h
 ·simp at h
 ·exact Eq.mpr (qcK _ (fun s=>Kv s _=some r)) h
 ·split at h
  ·unfold qka Sd;exact ⟨rfl,h⟩
  ·simp at h
 ·split at h
  ·split at h
   ·split at h
    ·rename_i _ hu _ x hx
     unfold qka qyc
     rw [qb9] at hx
     exact ⟨x,hx,Int.natCast_nonneg _,qbN.1 hu,h⟩
    ·simp at h
   ·simp at h
  ·simp at h
 ·split at h
  ·split at h
   ·split at h
    ·split at h
     ·rename_i ty agg cells size xs off _ hs _ hu _ x hx _ d hd
      unfold qka qyk
      rw [qb9] at hx
      rw [Nat.blt_eq] at hs
      exact ⟨off/size,off%size,x,d,by rw [Nat.mul_comm];exact (Nat.div_add_mod off size).symm,Nat.mod_lt _ hs,hx,qbN.1 hu,hd,h⟩
     ·simp at h
    ·simp at h
   ·simp at h
  ·simp at h
 ·split at h
  ·split at h
   ·split at h
    ·split at h
     ·rename_i _ hs _ hu _ hl _ xs' hx
      unfold qka qtW
      rw [Nat.blt_eq] at hs
      exact ⟨xs',hx,by rw [<-qaT];exact Nat.eq_of_beq_eq_true hl,qbN.1 hu,hs,h⟩
     ·simp at h
    ·simp at h
   ·simp at h
  ·simp at h
 ·split at h
  ·exact Eq.mpr (qcK _ (fun s=>Kv s none=some r)) h
  ·exact Eq.mpr (qcK _ (fun s=>Kv s none=some r)) h
 ·rw [qAU] at h
  show Kv (.d (.v (.bool (bz _)))) none=some r
  rw [qaJ];exact h
def LeD(d d':D):Prop:= ∀(W:World) (ok:Nat->Prop) (v:Value),Den W ok d v->Den W ok d' v
theorem qul:LeD (.v (.slice none 0 0)) (.l []):=fun W ok v h=>by cases h;exact .l0 (by simp) fun _=>rfl
def qrZ(cs cs':List D):Prop:=cs'.length=cs.length/\ ∀(i:Nat) (c c':D),cs[i]? =some c->cs'[i]? =some c'->LeD c c'
theorem qrZ.cells{W:World}{ok:Nat->Prop}{cs cs':List D}{us:List Value}(h:qrZ cs cs')(hd: ∀(i:Nat) (c:D) (u:Value),cs[i]? =some c->us[i]? =some u->Den W ok c u): ∀(i:Nat) (c:D) (u:Value),cs'[i]? =some c->us[i]? =some u->Den W ok c u:=by
 intro i c' u hc hu
 have hi:i<cs.length:=by rw [<-h.1];exact (List.getElem?_eq_some_iff.1 hc).1
 have hx:cs[i]? =some cs[i] :=List.getElem?_eq_getElem hi
 exact h.2 i _ c' hx hc _ _ _ (hd i _ u hx hu)
theorem qrZ.append{xs xs' ys ys':List D}(h:qrZ xs xs')(k:qrZ ys ys'):qrZ (xs++ys) (xs'++ys'):=by
 refine ⟨by simp [h.1,k.1],fun i c c' hc hc'=> ?_⟩
 rw [List.getElem?_append] at hc hc'
 rw [h.1] at hc'
 split at hc
 ·rename_i hi;rw [if_pos hi] at hc';exact h.2 i c c' hc hc'
 ·rename_i hi;rw [if_neg hi] at hc';exact k.2 _ c c' hc hc'
def LeC(x x':D):Prop:=qrZ x.cells x'.cells
theorem qg6{f:D->D}(h: ∀d,LeD d (f d))(cs:List D):qrZ cs (qbu f cs):=by
 rw [qf5]
 refine ⟨by simp,fun i c c' hc hc'=> ?_⟩
 rw [List.getElem?_map,hc] at hc'
 simp at hc';subst hc';exact h c
theorem qlg{f:D->D}(h: ∀d,LeC d (f d)): ∀(cs:List D),qrZ (flat cs) (flat (qbu f cs))
 | [] =>⟨rfl,fun i c c' hc _=>by simp [flat] at hc⟩
 |x::xs=>by
  have:=(h x).append (qlg h xs)
  simpa [flat,qbu] using this
theorem qnd: ∀(n:Nat) (d:D),LeD d (nlD n d)/\LeC d (nlD n d)
 |0,d=>⟨fun _ _ _ h=>h,rfl,fun i c c' hc hc'=>by
   have hc2:d.cells[i]? =some c':=hc'
   rw [hc] at hc2;simp at hc2;subst hc2;exact fun _ _ _ h=>h⟩
 |n+1,d=>by
  have ih:=qnd n
  have same: ∀d:D,LeD d d:=fun d _ _ _ h=>h
  have one: ∀{x y:D},LeD x y->qrZ [x] [y] :=fun {x y} h=>⟨rfl,fun i c c' hc hc'=>by
   cases i with
   |zero=>simp at hc hc';subst hc;subst hc';exact h
   |succ i=>simp at hc⟩
  unfold nlD
  split
  ·exact ⟨qul,one qul⟩
  ·rename_i cs
   have hm:=qg6 (fun d=>(ih d).1) cs
   refine ⟨fun W ok v h=> ?_,hm⟩
   cases h with
   |a h1 h2 h3=>exact .a (by rw [hm.1];exact h1) (hm.cells h2) h3
  ·rename_i cs
   have hf:=qlg (fun d=>(ih d).2) cs
   have hl:(qbu (nlD n) cs).length=cs.length:=by rw [qf5];simp
   have key:LeD (.l cs) (.l (qbu (nlD n) cs)):=fun W ok v h=>by
    cases h with
    |l0 h1 h2=>exact .l0 h1 h2
    |l h1 h2 h3 h4 h5 h6 h7 h8=>rw [<-hl];exact .l h1 (by rw [hf.1];exact h2) h3 h4 (hf.cells h5) h6 (by rw [hl];exact h7) h8
   exact ⟨key,one key⟩
  ·rename_i off cs
   have hm:=qg6 (fun d=>(ih d).1) cs
   have key:LeD (.p off cs) (.p off (qbu (nlD n) cs)):=fun W ok v h=>by
    cases h with
    |p h1 h2 h3 h4 h5 h6=>exact .p h1 (by rw [hm.1];exact h2) h3 h4 (hm.cells h5) h6
   exact ⟨key,one key⟩
  ·rename_i g cs
   have hm:=qg6 (fun d=>(ih d).1) cs
   have key:LeD (.f g cs) (.f g (qbu (nlD n) cs)):=fun W ok v h=>by
    cases h with
    |f h1 h2=>exact .f (by rw [hm.1];exact h1) (hm.cells h2)
   exact ⟨key,one key⟩
  ·refine ⟨same _,rfl,fun i c c' hc hc'=> ?_⟩
   rw [hc] at hc';simp at hc';subst hc';exact same _
theorem qpV{W:World}{ok:Nat->Prop}{ds:List D}{us:List Value}(h:qaM W ok ds us):qaM W ok (qbu (nlD 8) ds) us:=by
 have hm:=qg6 (fun d=>(qnd 8 d).1) ds
 exact ⟨by rw [hm.1];exact h.1,hm.cells h.2⟩
theorem qAe{P:Program}{g:FuncId}{ds res:List D}(h:Fun P g ds res):Fun P g ds (qbu (nlD 8) res):=by
 refine ⟨h.1,fun w ok us hd=>(h.2 w ok us hd).mono fun e w' ⟨v,h1,h2,h3⟩=>⟨v,h1, ?_,h3⟩⟩
 match res,h2 with
 | [d],h2=>exact (qnd 8 d).1 _ _ _ h2
 | [],h2=>exact h2
 |d::d'::ds,h2=>
  obtain ⟨us,e1,e2⟩:=h2
  exact ⟨us,e1,qpV e2⟩
theorem qz4{P:Program}{g:FuncId}{ds res:List D}(h:Fun P g (qbu (nlD 8) ds) res):Fun P g ds (qbu (nlD 8) res):=by
 refine ⟨h.1,fun w ok us hd=>(h.2 w ok us (qpV hd)).mono fun e w' ⟨v,h1,h2,h3⟩=>⟨v,h1, ?_,h3⟩⟩
 match res,h2 with
 | [d],h2=>exact (qnd 8 d).1 _ _ _ h2
 | [],h2=>exact h2
 |d::d'::ds,h2=>
  obtain ⟨us,e1,e2⟩:=h2
  exact ⟨us,e1,qpV e2⟩
end Go.Nv
end
section
namespace Go.Nv
open Go.RowKit
theorem qez{E:Ev}(hfn: ∀g fn,lkO E.fns g=some fn->E.P.funcs[g]? =some fn){g:FuncId}{fn:Func}{c:Code}(h:qiY E g=some (fn,c)):E.P.funcs[g]? =some fn/\fn.body=some c/\(fn.name== "runtime.NumGoroutine")=false:=by
 unfold qiY at h
 split at h
 ·rename_i fn' hf
  split at h
  ·rename_i c' hc
   split at h
   ·simp at h
   ·rename_i hn
    simp at h
    obtain ⟨rfl,rfl⟩:=h
    exact ⟨hfn _ _ hf,hc,hn⟩
  ·simp at h
 ·simp at h
section
variable {E:Ev} {C:(Tmp->Bool)->Code->St->(Ex->St->R)->R}
theorem qog{rs:List ResultVar}{k:Nat}{dst:Option Tmp}{K:St->R}{e:Ex}{st:St}{r:List D}(h:qEa E rs k dst K e st=some r):qyi E.T rs k dst (fun st=>K st=some r) e st:=by
 unfold qEa at h
 unfold qyi
 cases e with
 |exit i=>simp at h
 |normal=>
  simp only at h ⊢
  split at h
  ·split at h
   ·rw [qeK] at h;(simp only [*,qaF] <;>first|done|exact h)
   ·simp at h
  ·simp at h
 |ret=>
  simp only at h ⊢
  split at h
  ·split at h
   ·rw [qeK] at h;(simp only [*,qaF] <;>first|done|exact h)
   ·simp at h
  ·simp at h
theorem qoG{k:Nat}{K:St->R}{e:Ex}{st:St}{r:List D}(h:qE5 k K e st=some r):qrY k (fun st=>K st=some r) e st:=by
 unfold qE5 at h
 unfold qrY
 cases e with
 |normal=>
  simp only at h ⊢
  split at h
  ·split at h
   ·rw [qeK] at h;(simp only [*,qaF] <;>first|done|exact h)
   ·simp at h
  ·simp at h
 |exit i=>simp at h
 |ret=>simp at h
theorem qn2{k kk:Nat}{dst:Option Tmp}{K:St->R}{e:Ex}{st:St}{r:List D}(h:qCL k kk dst K e st=some r):qyV k kk dst (fun st=>K st=some r) e st:=by
 unfold qCL at h
 unfold qyV
 split at h
 ·split at h
  ·split at h
   ·cases e<;>(simp only [qeK] at h;simp only [*,qaF] <;>first|done|exact h)
   ·simp at h
  ·simp at h
 ·simp at h
theorem qoJ{k:Nat}{K:Ex->St->R}{e:Ex}{st:St}{r:List D}(h:qDh k K e st=some r):qzW k (fun e st=>K e st=some r) e st:=by
 unfold qDh at h
 unfold qzW
 cases e with
 |exit i=>simp at h
 |normal=>
  simp only at h ⊢
  split at h
  ·split at h<;>first|(rw [qeK] at h;(simp only [*,qaF] <;>first|done|exact h))|simp at h
  ·simp at h
 |ret=>
  simp only at h ⊢
  split at h
  ·split at h<;>first|(rw [qeK] at h;(simp only [*,qaF] <;>first|done|exact h))|simp at h
  ·simp at h
theorem qsm: ∀(n:Nat) (x:D),qrz n x x:=by
 intro n
 induction n with
 |zero=>intro x;exact rfl
 |succ n ih=>
  have hl: ∀xs:List D,qtQ (qrz n) xs xs:=by
   intro xs
   induction xs with
   |nil=>trivial
   |cons x xs ihx=>exact ⟨ih x,ihx⟩
  have hv: ∀x:Value,qx6 x x:=by intro x;cases x<;>simp [qx6]
  intro x
  cases x<;>simp_all [qrz]
theorem qfZ{T:Tb}{st:St}: ∀{rs:List ResultVar} {ds:List D},qyO T st rs=some ds->qzX T st rs ds
 | [],ds,h=>by simp [qyO] at h;subst h;trivial
 |r::rs,ds,h=>by
  unfold qyO at h
  split at h
  ·rename_i d hd
   split at h
   ·rename_i ds' hds
    simp at h;subst h
    refine ⟨?_,qfZ hds⟩
    rw [hd];exact qsm 4 d
   ·simp at h
  ·simp at h
theorem qdy(hm:E.P.follows .mixedOrders=true)(hT:qcG E.P E.T)(hfn: ∀g fn,lkO E.fns g=some fn->E.P.funcs[g]? =some fn)(horc: ∀g ds res,E.orc g ds=some res->Fun E.P g ds res)
  (hC: ∀mu c st K r,C mu c st K=some r->Ok E.P c st fun e st'=>K e st'=some r) {g:FuncId} {ds res:List D} (h:evF E C g ds=some res):Fun E.P g ds (qbu (nlD 8) res):=by
 unfold evF at h
 rw [qe7 (qlJ 8)] at h
 have key:Fun E.P g (qEw (E.raw g) ds) res->Fun E.P g ds (qbu (nlD 8) res):=by
  cases E.raw g with
  |true=>exact qAe
  |false=>exact qz4
 refine key ?_
 generalize qEw (E.raw g) ds=ds' at h ⊢
 split at h
 ·rename_i r' hr
  simp at h;subst h
  exact horc _ _ _ hr
 ·split at h
  ·rename_i fn c hb
   obtain ⟨h1,h2,h3⟩:=qez hfn hb
   refine qi1 hm hT h1 h2 h3 ((hC _ _ _ _ _ h).mono fun e st' hk=> ?_)
   cases e with
   |exit i=>simp at hk
   |normal=>exact qfZ hk
   |ret=>exact qfZ hk
  ·simp at h
end
end Go.Nv
end
section
namespace Go.Nv
open Go.RowKit
section
variable {E:Ev} {C:(Tmp->Bool)->Code->St->(Ex->St->R)->R}
theorem qmx(hm:E.P.follows .mixedOrders=true)(hT:qcG E.P E.T)(hfn: ∀g fn,lkO E.fns g=some fn->E.P.funcs[g]? =some fn)
  (hC: ∀mu c st K r,C mu c st K=some r->Ok E.P c st fun e st'=>K e st'=some r) {f:Operand} {args:List Operand} {dst:Option Tmp} {st:St} {K:St->R} {r:List D} (h:qp2 E C (evx st.env f) args dst st K=some r):
  qbI E.P f args dst st fun st'=>K st'=some r:=by
 unfold qp2 at h
 split at h
 ·rename_i g cap hcal
  split at h
  ·rename_i fn c hb
   obtain ⟨h1,h2,h3⟩:=qez hfn hb
   rw [qeX,qeK] at h
   exact qhs hm hT hcal h1 h2 h3 ((hC _ _ _ _ _ h).mono fun e st' hk=>qog hk)
  ·simp at h
 ·simp at h
theorem qv6(st:St)(K:St->R):qDn st K=K st:=by
 unfold qDn
 rw [qe7 (qoz 8),qe7 qys]
theorem qgh{P:Program}{f:Operand}{args:List Operand}{dst:Option Tmp}{K:St->R}{r:List D}{Kp:St->Prop}(hk: ∀st,K st=some r->qbI P f args dst st Kp): ∀(ss:List S) (st:St),qyg ss st K=some r->qbI P f args dst st Kp
 | [],st,h=>by unfold qyg at h;rw [qv6] at h;exact hk _ h
 |s::ss,st,h=>by
  unfold qyg at h
  split at h
  ·rename_i k v;exact qbr k (qgh hk ss _ h)
  ·exact qgh hk ss _ h
theorem qxL{old bs:Nat->Prop}{w0:Ctx}{ι:Nat->Value}{st:St}{a:Act}{W:World}(h:Rel old bs w0 ι st a W)(x:Operand):qaG W ι (qap (tat st.t)) (okT bs (tat st.t) ι) (evn st.env x) (a.eval x):=by
 unfold evn
 split
 ·exact .d (.v rfl)
 ·rw [qbe];exact h.ev x
theorem qsW{P:Program}{f:Operand}{args:List Operand}{dst:Option Tmp}{st:St}{g:FuncId}{cap ds res:List D}{K:St->Prop}(hf:evx st.env f= .d (.f g cap))(hd:qdY (args.map (evn st.env))=some ds)(h:Fun P g (ds++cap) res)(hk:K ⟨qd2 st.env dst (qj4 res),st.t⟩):qbI P f args dst st K:=by
 unfold qbI
 rintro o ⟨ts,hop⟩ rfl
 intro n old bs w0 a W ι Kw Q hr hKw
 rw [qbe] at hf
 rw [qbq] at hk
 have hfv:=hr.ev f
 rw [hf] at hfv
 obtain ⟨cs,hfe,hcs⟩:=qwv hfv
 have hargs:qao W ι (qap (tat st.t)) (okT bs (tat st.t) ι) (args.map (evn st.env)) (args.map a.eval):=by
  refine ⟨by simp,fun i c u hc hu=> ?_⟩
  rw [List.getElem?_map] at hc hu
  cases hq:args[i]? with
  |none=>simp [hq] at hc
  |some q=>simp [hq] at hc hu;subst hc;subst hu;exact qxL hr q
 rw [qbQ hd] at hargs
 have hdd:=hargs.inv
 refine ⟨fun f _=>FW.fn _ f, ?_⟩
 rw [Oper.semAt_eq _ _ _ (by rw [hop];simp)]
 have hrun:(execOp a.eval o).run P W= .ok (.enter g ((args.map a.eval++cs).toArray)) W:=by
  obtain ⟨fn,h1,h2,h3⟩:=h.1
  obtain ⟨c,h2⟩:=Option.isSome_iff_exists.1 h2
  simp [execOp,hop,resolve,hfe,Deferred.ofValue,invoke,callFunc,h1,h2,h3]
  simp_all
 rw [hrun]
 refine ⟨by simp [FW,Fence.wide], ?_⟩
 refine CallsIn.mono (FW.calls (h.2 W _ _ (hdd.append hcs))) fun e W' he=> ?_
 obtain ⟨v,rfl,hret,hbel⟩:=he
 have hst:=hr.tok.quiet hr.oldIn (qaL hbel)
 exact hKw _ _ _ ι hk (hr.put (t:=st.t) hst (hret.toS (fun b hb _=>hb.elim id (qdW hr.tok hr.oldIn))))
theorem qgv(hm:E.P.follows .mixedOrders=true)(hT:qcG E.P E.T)(hfn: ∀g fn,lkO E.fns g=some fn->E.P.funcs[g]? =some fn)(horc: ∀g ds res,E.orc g ds=some res->Fun E.P g ds res)
  (hC: ∀mu c st K r,C mu c st K=some r->Ok E.P c st fun e st'=>K e st'=some r) {f:Operand} {args:List Operand} {dst:Option Tmp} {st:St} {K:St->R} {r:List D} (h:qm9 E C f args dst st K=some r):
  qbI E.P f args dst st fun st'=>K st'=some r:=by
 have inl:=fun h=>qmx (f:=f) (args:=args) (dst:=dst) (st:=st) (K:=K) (r:=r) hm hT hfn hC h
 unfold qm9 at h
 split at h
 ·rename_i k v hf
  split at h
  ·split at h
   ·rename_i s pend ps asg body cs hk
    split at h
    ·split at h
     ·rename_i hl
      rw [qeX,qeK] at h
      have hl':args.length=ps.size:=by rw [<-qaT];exact Nat.eq_of_beq_eq_true hl
      exact qfx hf hk hl' ((hC _ _ _ _ _ h).mono fun e st' hk'=>qkp (fun st2 h2=>(hC _ _ _ _ _ h2).mono fun e st' hk=>qn2 hk) e st' (qoG hk'))
     ·simp at h
    ·simp at h
   ·simp at h
  ·simp at h
 ·split at h
  ·rename_i g cap ds hf hd
   split at h
   ·split at h
    ·rename_i ds' hd'
     split at h
     ·rename_i res hr
      rw [qel] at h
      exact qsW hf hd' (qdy hm hT hfn horc hC hr) h
     ·simp at h
    ·simp at h
   ·split at h
    ·rename_i res hr
     rw [qel] at h
     exact qaa hf hd (qdy hm hT hfn horc hC hr) h
    ·exact inl h
  ·rename_i g cap hf hd
   split at h
   ·rename_i k ver b hu
    rw [qel] at h
    unfold evU at hu
    split at hu
    ·split at hu
     ·rename_i k' ver' rest hss
      split at hu
      ·rename_i ds hds
       split at hu
       ·rename_i v e size bytes xs hk
        split at hu
        ·rename_i hb
         split at hu
         ·rename_i y hy
          simp only [Option.some.injEq,Prod.mk.injEq] at hu
          obtain ⟨rfl,rfl,rfl⟩:=hu
          have:=Nat.eq_of_beq_eq_true hb
          subst this
          exact qpq hf hss hds hk y.2 h
         ·simp at hu
        ·simp at hu
       ·simp at hu
      ·simp at hu
     ·simp at hu
    ·simp at hu
   split at h
   ·refine qgh (fun st' h=> ?_) _ _ h
    split at h
    ·rename_i g cap ds hf hd
     split at h
     ·rename_i res hr
      rw [qel] at h
      exact qaa hf hd (qdy hm hT hfn horc hC hr) h
     ·simp at h
    ·simp at h
   ·exact inl h
  ·exact inl h
end
end Go.Nv
end
section
namespace Go.Nv
open Go.RowKit
def qlG(E:Ev):Prop:= ∀(xt:TypeId) (x lo hi m:Operand) (o:Oper) (st:St) (K:St->R) (r:List D),o.op= .slice xt x (some lo) (some hi) (some m)->qvO E xt x lo hi m o st K=some r->OkOp E.P o st fun st'=>K st'=some r
theorem qrS{o:Out}{K K':S->Option (Nat×B)->Prop}(hk: ∀s u,K s u->K' s u)(h:qka o K):qka o K':=by
 cases o with
 |fail=>exact h
 |val s u=>exact Eq.mpr (qcK _ (fun s=>K' s u)) (hk _ _ (Eq.mp (qcK _ (fun s=>K s u)) h))
 |side b s u=>
  unfold qka Sd at*
  exact ⟨h.1,hk _ _ h.2⟩
 |idx cells e xs n=>
  unfold qka qyc at*
  obtain ⟨x,a,b,c,d⟩:=h
  exact ⟨x,a,b,c,hk _ _ d⟩
 |rld ty agg cells size xs off=>
  unfold qka qyk at*
  obtain ⟨i,r,x,d,a,b,c,e,f,g⟩:=h
  exact ⟨i,r,x,d,a,b,c,e,f,hk _ _ g⟩
 |rst cells k v e size bytes xs off d=>
  unfold qka qtW at*
  obtain ⟨xs',a,b,c,e,f⟩:=h
  exact ⟨xs',a,b,c,e,hk _ _ f⟩
 |pick z a b=>
  cases z with
  |true=>exact Eq.mpr (qcK _ (fun s=>K' s none)) (hk _ _ (Eq.mp (qcK _ (fun s=>K s none)) h))
  |false=>exact Eq.mpr (qcK _ (fun s=>K' s none)) (hk _ _ (Eq.mp (qcK _ (fun s=>K s none)) h))
 |boo b=>exact hk _ _ h
theorem qkl{P:Program}{T:Tb}{mu:Tmp->Bool}{o:Oper}{st:St}{K K':qcN->St->Prop}(hk: ∀l st,K l st->K' l st)(h:qlm P T mu o st K):qlm P T mu o st K':=by
 unfold qlm at h ⊢
 split at h
 ·split at h
  ·skip
   unfold qlx at h ⊢
   rcases h with ⟨res,a,b⟩|⟨e,size,bytes,res,a,b⟩
   ·exact .inl ⟨res,a,by rw [qaF] at b ⊢;exact hk _ _ b⟩
   ·exact .inr ⟨e,size,bytes,res,a,by rw [qaF] at b ⊢;exact hk _ _ b⟩
  ·unfold qxO at h ⊢
   rcases h with ⟨rest,ds,k,ver,e,size,bytes,xs,ys,h0,h1,h2,h3,h4,h5⟩|⟨k,ver,e,size,bytes,xs,ds,res,h1,h2,h3,h4,h5⟩
   ·exact .inl ⟨rest,ds,k,ver,e,size,bytes,xs,ys,h0,h1,h2,h3,h4,by rw [qaF] at h5 ⊢;exact hk _ _ h5⟩
   ·exact .inr ⟨k,ver,e,size,bytes,xs,ds,res,h1,h2,h3,h4,by rw [qaF] at h5 ⊢;exact hk _ _ h5⟩
  ·exact h.elim
 ·rw [qhm] at h ⊢
  exact qrS (fun s u h=>by rw [qaF] at h ⊢;exact hk _ _ h) h
section
variable {E:Ev} {C:(Tmp->Bool)->Code->St->(Ex->St->R)->R} {mu:Tmp->Bool}
theorem qkJ{o:Oper}{st:St}{K:qcN->St->R}{r:List D}(h:qsD E mu o st K=some r):
  qka (opX E.T (qcm st.t) (qr1 mu o.dst) (evx st.env) (qcY st.t) o.type o.op) (fun s u=>K ⟨qgo (evx st.env) o.op,u.map (·.1)⟩ ⟨qd2 st.env o.dst s,qqr st.t u⟩=some r):=by
 unfold qsD at h
 rw [qeX] at h
 simp only [qel] at h
 exact qmk h
theorem qn9(hsl:qlG E)(hm:E.P.follows .mixedOrders=true)(hT:qcG E.P E.T)(hfn: ∀g fn,lkO E.fns g=some fn->E.P.funcs[g]? =some fn)(horc: ∀g ds res,E.orc g ds=some res->Fun E.P g ds res)
  (hC: ∀mu c st K r,C mu c st K=some r->Ok E.P c st fun e st'=>K e st'=some r) {o:Oper} {st:St} {K:St->R} {r:List D} (h:qBM E C mu o st K=some r):OkOp E.P o st fun st'=>K st'=some r:=by
 unfold qBM at h
 split at h
 ·rename_i xt x lo hi m hop
  exact hsl xt x lo hi m o st K r hop h
 ·rename_i f args ts hop
  refine qeD (T:=E.T) (mu:=mu) hT ?_
  unfold quF
  rw [hop]
  exact qgv hm hT hfn horc hC h
 ·rename_i h1 h2
  refine qeD (T:=E.T) (mu:=mu) hT ?_
  have:=qkJ h
  unfold quF
  split
  ·rename_i f args ts hop;exact absurd hop (h2 _ _ _)
  ·rw [qhm];simp only [qaF];exact this
theorem qkU{ops:List Oper}{o:Oper}{st:St}{a b:R}{r:List D}(h:evG (α:=D) ops o st a b=some r):
  (o.guard=none/\a=some r)\/(∃j want d z,o.guard=some (j,want)/\qhv ops j=some d/\lk st.env d= .d (.v (.bool z))/\((z=want/\a=some r)\/(z≠want/\b=some r)))\/
  (∃j want d,o.guard=some (j,want)/\qhv ops j=some d/\lk st.env d= .tup [] /\b=some r):=by
 unfold evG at h
 split at h
 ·rename_i hg;exact .inl ⟨hg,h⟩
 ·rename_i j want hg
  split at h
  ·rename_i d hd
   split at h
   ·rename_i z hz
    refine .inr (.inl ⟨j,want,d,z,hg,hd,hz, ?_⟩)
    cases z<;>cases want<;>simp at h ⊢ <;>exact h
   ·rename_i hz;exact .inr (.inr ⟨j,want,d,hg,hd,hz,h⟩)
   ·simp at h
  ·simp at h
theorem qoX(hm:E.P.follows .mixedOrders=true)(hT:qcG E.P E.T)(hfn: ∀g fn,lkO E.fns g=some fn->E.P.funcs[g]? =some fn)(horc: ∀g ds res,E.orc g ds=some res->Fun E.P g ds res)
  (hC: ∀mu c st K r,C mu c st K=some r->Ok E.P c st fun e st'=>K e st'=some r) {o:Oper} {st:St} {K:qcN->St->R} {r:List D} (h:qBS E C mu o st K=some r):qlm E.P E.T mu o st fun l st'=>K l st'=some r:=by
 unfold qBS at h
 unfold qlm
 split at h
 ·rename_i f args ts hop
  rw [hop]
  simp only
  split at h
  ·rename_i g cap ds hf hd
   split at h
   ·rename_i res hr
    rw [qel] at h
    simp only [hf,hd]
    unfold qlx
    exact .inl ⟨_,qdy hm hT hfn horc hC hr,Eq.mpr (qaF _ _) h⟩
   ·simp at h
  ·simp at h
 ·rename_i h2
  have:=qkJ h
  split
  ·rename_i f args ts hop;exact absurd hop (h2 _ _ _)
  ·rw [qhm];simp only [qaF];exact this
theorem qbY(hm:E.P.follows .mixedOrders=true)(hT:qcG E.P E.T)(hfn: ∀g fn,lkO E.fns g=some fn->E.P.funcs[g]? =some fn)(horc: ∀g ds res,E.orc g ds=some res->Fun E.P g ds res)
  (hC: ∀mu c st K r,C mu c st K=some r->Ok E.P c st fun e st'=>K e st'=some r) {ops:List Oper}: ∀(l:List Oper) (acc:List qcN) {st:St} {K:List qcN->St->R} {r:List D},qkh E C mu ops l acc st K=some r->qdS E.P E.T mu ops l acc st fun ls st'=>K ls st'=some r
 | [],acc,st,K,r,h=>h
 |o::l,acc,st,K,r,h=>by
  unfold qkh at h
  unfold qdS gdr
  have mono: ∀{K K':qcN->St->Prop},(∀l st,K l st->K' l st)->qlm E.P E.T mu o st K->qlm E.P E.T mu o st K':=fun hk hv=>qkl hk hv
  have run: ∀h:qBS E C mu o st (fun l' st'=>qkh E C mu ops l (acc++ [l']) st' K)=some r,qlm E.P E.T mu o st fun l' st'=>qdS E.P E.T mu ops l (acc++ [l']) st' fun ls st'=>K ls st'=some r:=
   fun h=>mono (fun l' st' h'=>qbY hm hT hfn horc hC l _ h') (qoX hm hT hfn horc hC h)
  rcases qkU h with ⟨hg,ha⟩|⟨j,want,d,z,hg,hd,hz,hh⟩|⟨j,want,d,hg,hd,hz,hb⟩
  ·simp only [hg];exact run ha
  ·simp only [hg,hd,hz]
   have e1:st1 st.env d (.d (.v (.bool z)))=st.env:=qeH hz (by simp)
   cases z with
   |true=>
    simp only [cnd,show tt'=S.d (.v (.bool true)) from rfl,e1,qaF]
    rcases hh with ⟨rfl,ha⟩|⟨hne,hb⟩
    ·exact run ha
    ·cases want with
     |true=>exact absurd rfl hne
     |false=>rw [qel] at hb;exact qbY hm hT hfn horc hC l _ hb
   |false=>
    simp only [cnd,show ff'=S.d (.v (.bool false)) from rfl,e1,qaF]
    rcases hh with ⟨rfl,ha⟩|⟨hne,hb⟩
    ·exact run ha
    ·cases want with
     |false=>exact absurd rfl hne
     |true=>rw [qel] at hb;exact qbY hm hT hfn horc hC l _ hb
  ·simp only [hg,hd,hz,qaF]
   rw [qel] at hb;exact qbY hm hT hfn horc hC l _ hb
end
end Go.Nv
end
section
namespace Go.Nv
open Go.RowKit
section
variable {E:Ev} {C:(Tmp->Bool)->Code->St->(Ex->St->R)->R} {mu:Tmp->Bool}
theorem qlE(hsl:qlG E)(hm:E.P.follows .mixedOrders=true)(hT:qcG E.P E.T)(hfn: ∀g fn,lkO E.fns g=some fn->E.P.funcs[g]? =some fn)(horc: ∀g ds res,E.orc g ds=some res->Fun E.P g ds res)
  (hC: ∀mu c st K r,C mu c st K=some r->Ok E.P c st fun e st'=>K e st'=some r) {ops:Array Oper} {K:St->R} {r:List D} {n:Nat} {old bs:Nat->Prop} {w0:Ctx} {Q:Exit->Act->World->Prop}
  (hK: ∀st' a' W' ι',K st'=some r->Rel old bs w0 ι' st' a' W'->Q .normal a' W'):
  ∀(l:List Oper) (i:Nat) (st:St) (a:Act) (W:World) (ι:Nat->Value),ops.toList.drop i=l->ql9 E C mu ops.toList l st K=some r->Rel old bs w0 ι st a W->wpOpsIn (FW w0.r) n E.P ops Q (List.range' i l.length) a W:=by
 intro l
 induction l with
 |nil=>intro i st a W ι _ hv h;exact hK _ _ _ _ hv h
 |cons o l ih=>
  intro i st a W ι hd hv h
  have hoi:ops[i]? =some o:=by
   have:(ops.toList.drop i)[0]? =some o:=by rw [hd];rfl
   simpa using this
  have hd':ops.toList.drop (i+1)=l:=by
   rw [<-List.drop_drop,hd];rfl
  rw [List.length_cons,List.range'_succ]
  simp only [wpOpsIn,hoi]
  unfold ql9 at hv
  have dst: ∀{j d},qhv ops.toList j=some d->(ops[j]?).bind (·.dst)=some d:=by
   intro j d hd2
   unfold qhv at hd2
   rw [qb9,Array.getElem?_toList] at hd2
   split at hd2
   ·rename_i oo hoo;rw [hoo];exact hd2
   ·simp at hd2
  have run: ∀hr:qBM E C mu o st (fun st'=>ql9 E C mu ops.toList l st' K)=some r,o.wpIn (FW w0.r) n E.P a W (fun a' W'=>wpOpsIn (FW w0.r) n E.P ops Q (List.range' (i+1) l.length) a' W') Q:=
   fun hr=>qn9 hsl hm hT hfn horc hC hr _ _ _ _ _ _ _ _ _ h fun st' a' W' ι' hk hrel=>ih (i+1) _ _ _ ι' hd' hk hrel
  have skip: ∀hb:stp st o.dst (.tup []) none (fun st'=>ql9 E C mu ops.toList l st' K)=some r,wpOpsIn (FW w0.r) n E.P ops Q (List.range' (i+1) l.length) (a.put o.dst undef) W:=by
   intro hb
   rw [qel,qbq] at hb
   have:=h.put (dst:=o.dst) (s:= .tup []) (v:=undef) (t:=st.t) (qax.refl h.tok) (qhU _ _ _ _)
   exact ih (i+1) _ _ _ ι hd' hb this
  rcases qkU hv with ⟨hg,ha⟩|⟨j,want,d,z,hg,hd2,hz,hh⟩|⟨j,want,d,hg,hd2,hz,hb⟩
  ·rw [if_pos (by simp [Region.wanted,hg])]
   exact run ha
  ·have hj:=dst hd2
   have hsd:=h.ev (.tmp d)
   have hb':ev st.env (.tmp d)= .d (.v (.bool z)):=by rw [<-qbe];exact hz
   rw [hb'] at hsd
   have hval:=(qdg hsd).1
   have hy:yielded ops a.tmps j=some z:=by
    unfold yielded
    rw [hj]
    simp only [Option.bind_some]
    have:a.tmps.getD d undef= .bool z:=hval
    cases hq:a.tmps[d]? with
    |none=>rw [Array.getD_eq_getD_getElem?,hq] at this;simp [undef] at this
    |some q=>rw [Array.getD_eq_getD_getElem?,hq] at this;simp at this;rw [this]
   rcases hh with ⟨hbw,hgo⟩|⟨hbw,hgo⟩
   ·rw [if_pos (by simp [Region.wanted,hg,hy,hbw])]
    exact run hgo
   ·rw [if_neg (by simp [Region.wanted,hg,hy,hbw])]
    exact ⟨fun f _=>FW.fn _ f,skip hgo⟩
  ·have hj:=dst hd2
   have hsd:=h.ev (.tmp d)
   have hb':ev st.env (.tmp d)= .tup [] :=by rw [<-qbe];exact hz
   rw [hb'] at hsd
   have hy:yielded ops a.tmps j=none:=qcR hj (qke hsd)
   rw [if_neg (by simp [Region.wanted,hg,hy])]
   exact ⟨fun f _=>FW.fn _ f,skip hb⟩
end
end Go.Nv
end
section
namespace Go.Nv
open Go.RowKit
theorem qcB{P:Program}{T:Tb}{mu:Tmp->Bool}{ops:List Oper}{K K':List qcN->St->Prop}(hk: ∀ls st,K ls st->K' ls st): ∀{l:List Oper} (acc:List qcN) (st:St),qdS P T mu ops l acc st K->qdS P T mu ops l acc st K'
 | [],acc,st,h=>hk _ _ h
 |o::l,acc,st,h=>by
  unfold qdS gdr at h ⊢
  have run: ∀{st:St},qlm P T mu o st (fun l' st'=>qdS P T mu ops l (acc++ [l']) st' K)->qlm P T mu o st (fun l' st'=>qdS P T mu ops l (acc++ [l']) st' K'):=fun h=>qkl (fun l' st' h'=>qcB hk _ _ h') h
  split at h
  ·exact run h
  ·rename_i j want hg
   split at h
   ·split at h
    ·rename_i b hb
     cases b<;>cases want<;>simp only [cnd,qaF] at h ⊢ <;>first|exact run h|exact qcB hk _ _ h
    ·rw [qaF] at h ⊢;exact qcB hk _ _ h
    ·exact h.elim
   ·exact h.elim
theorem qn4{P:Program}{f:Operand}{args:List Operand}{dst:Option Tmp}{st:St}{K K':St->Prop}(hk: ∀st,K st->K' st)(h:qbI P f args dst st K):qbI P f args dst st K':=by
 unfold qbI at*
 intro o ho hd n old bs w0 a W ι Kw Q hr hK
 exact h o ho hd n old bs w0 a W ι Kw Q hr fun st' a' W' ι' hk' hrel=>hK st' a' W' ι' (hk _ hk') hrel
theorem qfi{b:Bool}{k:R}{r:List D}(h:qja b k=some r):b=true/\k=some r:=by
 unfold qja at h
 split at h
 ·exact ⟨rfl,h⟩
 ·simp at h
theorem qjZ{st:St}{all:List Oper}: ∀(l:List Oper) (k:Nat) {p:Nat} {y:Oper} {f:Operand} {args:List Operand},(∀i o,l[i]? =some o->all[k+i]? =some o)->qyh st all l k=some (p,y,f,args)->
  all[p]? =some y/\y.guard=none/\ ∃ts,y.op= .call {callee:= .value f,args:=args.toArray,argTypes:=ts}
 | [],k,p,y,f,args,_,h=>by simp [qyh] at h
 |o::l,k,p,y,f,args,hl,h=>by
  have hl': ∀i o',l[i]? =some o'->all[k+1+i]? =some o':=fun i o' ho=>by
   have:=hl (i+1) o' (by simpa using ho)
   rwa [show k+1+i=k+(i+1) by omega]
  unfold qyh at h
  split at h
  ·rename_i d as ts hop hg
   split at h
   ·simp at h
    obtain ⟨rfl,rfl,rfl,rfl⟩:=h
    exact ⟨by simpa using hl 0 o rfl,hg,ts,by rw [hop]⟩
   ·exact qjZ l (k+1) hl' h
  ·exact qjZ l (k+1) hl' h
theorem qcg{P:Program}{T:Tb}{k:Nat}{cs:List S}{c:Code}{Kp:Ex->St->Prop}{r:List D}{K:St->R}(hk: ∀st,K st=some r->Ok P c st Kp): ∀(fs:List (Nat×TypeId)) (st:St),qtE T k cs fs st K=some r->Ok P c st Kp
 | [],st,h=>hk _ h
 |(off,ty)::fs,st,h=>by
  unfold qtE at h
  split at h
  ·split at h
   ·split at h
    ·split at h
     ·rw [qeK] at h
      exact (qcg hk fs _ h).weak (qnT _ _ _ _ _ st)
     ·exact qcg hk fs _ h
    ·exact qcg hk fs _ h
   ·exact qcg hk fs _ h
  ·exact qcg hk fs _ h
theorem qiB{P:Program}{T:Tb}{ow:TypeId->Bool}{c:Code}{Kp:Ex->St->Prop}{r:List D}{K:St->R}(hk: ∀st,K st=some r->Ok P c st Kp): ∀(t:List B) (k:Nat) (st:St),qu8 T ow t k st K=some r->Ok P c st Kp
 | [],k,st,h=>hk _ h
 |b::bs,k,st,h=>by
  have ih:=fun st h=>qiB (T:=T) (ow:=ow) hk bs (k+1) st h
  unfold qu8 at h
  split at h
  ·split at h
   ·split at h
    ·exact qcg ih _ _ h
    ·split at h
     ·exact qcg ih _ _ h
     ·exact ih _ h
   ·exact ih _ h
  ·exact ih _ h
theorem qh1{E:Ev}(hsl:qlG E)(hm:E.P.follows .mixedOrders=true)(hT:qcG E.P E.T)(hfn: ∀g fn,lkO E.fns g=some fn->E.P.funcs[g]? =some fn)(horc: ∀g ds res,E.orc g ds=some res->Fun E.P g ds res):
  ∀(n:Nat) (mu:Tmp->Bool) (c:Code) (st:St) (K:Ex->St->R) (r:List D),evC E n mu c st K=some r->Ok E.P c st (fun e st'=>K e st'=some r)/\ ∀b,c= .loop b->qAj E.P b n st fun e st'=>K e st'=some r:=by
 intro n
 induction n with
 |zero=>intro mu c st K r h;simp [evC] at h
 |succ n ih=>
  intro mu c st K r h
  have ok:=fun mu c st K r h=>(ih mu c st K r h).1
  cases c with
  |skip=>exact ⟨fun n old bs w0 a W ι hr=>wpIn_skip ⟨.normal,st,ι,rfl,h,hr⟩,fun b hb=>by cases hb⟩
  |exit i=>exact ⟨fun n old bs w0 a W ι hr=>wpIn_exit ⟨.exit i,st,ι,rfl,h,hr⟩,fun b hb=>by cases hb⟩
  |ret=>exact ⟨fun n old bs w0 a W ι hr=>wpIn_ret ⟨.ret,st,ι,rfl,h,hr⟩,fun b hb=>by cases hb⟩
  |seq x y=>
   refine ⟨Ok.seq ((ok _ _ _ _ _ h).mono fun e st' hk=> ?_),fun b hb=>by cases hb⟩
   cases e with
   |normal=>exact ok _ _ _ _ _ hk
   |exit i=>exact hk
   |ret=>exact hk
  |block id x=>
   refine ⟨fun n' old bs w0 a W ι hr=>wpIn_block (wpIn_mono (ok _ _ _ _ _ h n' old bs w0 a W ι hr) ?_),fun b hb=>by cases hb⟩
   rintro e a' W' ⟨x',st',ι',rfl,hk,hrel⟩
   cases x' with
   |normal=>exact ⟨.normal,st',ι',rfl,hk,hrel⟩
   |exit i=>
    simp only [Ex.toExit,Exit.inBlock]
    simp only [qFu] at hk
    by_cases hi:i=id
    ·simp only [hi,Nat.beq_refl,if_true] at hk ⊢;exact ⟨.normal,st',ι',rfl,hk,hrel⟩
    ·simp only [if_neg hi,show Nat.beq i id=false by rw [Bool.eq_false_iff];intro h';exact hi (Nat.eq_of_beq_eq_true h')] at hk ⊢;exact ⟨.exit i,st',ι',rfl,hk,hrel⟩
   |ret=>exact ⟨.ret,st',ι',rfl,hk,hrel⟩
  |cond o x y=>
   refine ⟨fun n' old bs w0 a W ι hr=> ?_,fun b hb=>by cases hb⟩
   simp only [evC] at h
   split at h
   ·rename_i z hz
    rw [qbe] at hz
    have hsd:=hr.ev o
    rw [hz] at hsd
    refine wpIn_cond (qdg hsd).1 ?_
    cases z with
    |true=>exact ok _ _ _ _ _ h n' old bs w0 a W ι hr
    |false=>exact ok _ _ _ _ _ h n' old bs w0 a W ι hr
   ·simp at h
  |loop x=>
   have hN:qAj E.P x (n+1) st fun e st'=>K e st'=some r:=by
    refine (ok _ _ _ _ _ h).mono fun e st' hk=> ?_
    cases e with
    |normal=>exact (ih _ _ _ _ _ hk).2 x rfl
    |exit i=>exact hk
    |ret=>exact hk
   exact ⟨qk6 (n+1) hN,fun b hb=>by cases hb;exact hN⟩
  |region id ops draw=>
   refine ⟨?_,fun b hb=>by cases hb⟩
   simp only [evC] at h
   rw [qeX] at h
   refine qiB (fun st h=> ?_) _ _ _ h
   cases draw with
   |false=>
    intro n' old bs w0 a W ι hr
    refine wpIn_region ?_
    have:=qlE (C:=evC E n) (n:=n') (old:=old) (bs:=bs) (w0:=w0) (Q:=qrW old bs w0 fun e st'=>K e st'=some r) hsl hm hT hfn horc ok (fun st' a' W' ι' hk hrel=>⟨.normal,st',ι',rfl,hk,hrel⟩) ops.toList 0 st a W ι (by simp) h hr
    rw [List.range_eq_range']
    simpa using this
   |true=>
    simp only [qFz] at h
    split at h
    ·refine qkd (mu:=qx9 mu ops.toList) hm hT _ _ _ ?_
     have:=qbY (C:=evC E n) hm hT hfn horc ok _ _ h
     show qdS _ _ _ _ _ _ _ _
     refine qcB (fun ls st' hk=> ?_) _ _ this
     obtain ⟨h1,h2⟩:=qfi hk
     unfold qCg qhc
     exact ⟨h1,h2⟩
    ·rename_i p y f args hy
     obtain ⟨y1,y2,ts,y3⟩:=qjZ ops.toList 0 (fun i o ho=>by simpa using ho) hy
     obtain ⟨hmid,h⟩:=qfi h
     refine qmY (T:=E.T) (mu:=qx9 mu ops.toList) hm hT p (by simpa using y1) y2 y3 hmid ?_
     refine qcB (fun ls1 st1 hk=> ?_) _ _ (qbY (C:=evC E n) hm hT hfn horc ok _ _ h)
     obtain ⟨h1,h2⟩:=qfi hk
     unfold qhc
     refine ⟨h1,qn4 (fun st2 hk2=> ?_) (qgv (C:=evC E n) hm hT hfn horc ok h2)⟩
     refine qcB (fun ls3 st3 hk3=> ?_) _ _ (qbY (C:=evC E n) hm hT hfn horc ok _ _ hk2)
     exact qfi hk3
  |rangeFunc f ps asg body=>
   refine ⟨?_,fun b hb=>by cases hb⟩
   simp only [evC] at h
   split at h
   ·rename_i g cap hcal
    split at h
    ·rename_i fn c hb
     obtain ⟨h1,h2,h3⟩:=qez hfn hb
     split at h
     ·rename_i hres
      rw [qeX,qeK] at h
      exact qno hcal h1 h2 h3 (by rw [<-Array.toList_eq_nil_iff];exact hres) ((ok _ _ _ _ _ h).mono fun e st' hk=>qoJ hk)
     ·simp at h
    ·simp at h
   ·simp at h
  |_=>simp [evC] at h
end Go.Nv
end
section
namespace Go.Nv
open Go.RowKit
def qqP(args:List D)(e:TypeId)(size bytes:Nat)(xs:List D)(ntmps:Nat):St:=⟨.own 0 0::qd1 (qgJ args) (qq2 (ntmps-(qcm args+1))), [.row 0 e size bytes xs]⟩
theorem qoK{P:Program}{T:Tb}{g:FuncId}{fn:Func}{c:Code}{args xs ys:List D}{e:TypeId}{size bytes:Nat}(hm:P.follows .mixedOrders=true)(hT:qcG P T)(hf:P.funcs[g]? =some fn)(hb:fn.body=some c)(hn:(fn.name== "runtime.NumGoroutine")=false)
  (hnp:qgt (flat ys)=true) (h:Ok P c (qqP args e size bytes xs fn.ntmps) (qzJ fn.results.toList e size ys)):qna P g e size args xs ys:=by
 have h1: ∀xs ys,qd1 xs ys=xs++ys:=by intro xs ys;induction xs<;>simp [qd1, *]
 have h2: ∀ds,qgJ ds=ds.map .d:=by intro ds;induction ds<;>simp [qgJ, *]
 unfold qqP at h
 rw [h1,h2,qh9,qaT] at h
 refine ⟨⟨fn,hf,by rw [hb];rfl,hn⟩,fun w ok v us0 us hown hden hone hnb hd=> ?_⟩
 refine (callsIn_wide (n:=0)).1 (callsIn_of_wp_marks (F:=FW none) hf hb (FW.fn none g) ?_ rfl)
 let old:Nat->Prop:=fun b=>b<w.heap.size/\blk v≠some b
 let bs:Nat->Prop:=fun b=>ok b\/w.heap.size<=b\/blk v=some b
 let ι0:Nat->Value:=fun k=>if k=0 then v else undef
 have ht0: ∀k,tat [B.row 0 e size bytes xs] (k+1)= .gone:=fun k=>by simp [tat]
 have hok: ∀b,ok b->b<w.heap.size->okT bs (tat [B.row 0 e size bytes xs]) ι0 b:=fun b hb _=>⟨.inl hb,fun k hk hbk=>by
  cases k with
  |zero=>exact hnb b hbk hb
  |succ k=>rw [ht0] at hk;simp [B.live] at hk⟩
 have hrel:Rel old bs ⟨w,fun _=>⟨[],0,0,0⟩,none⟩ ι0 ⟨.own 0 0::(args.map .d++List.replicate (fn.ntmps-(args.length+1)) .top), [.row 0 e size bytes xs]⟩ {tmps:=(v::us).toArray++Array.replicate (fn.ntmps-(v::us).toArray.size) undef,defers:= [] } w:=by
  refine ⟨⟨[],rfl,List.nodup_nil,by simp⟩,fun b hb=>hb.1,Fr.refl _ _,⟨fun b hb=> ?_,fun k=> ?_,fun j k b hj hk _ _=> ?_⟩, ?_,fun k=> ?_,fun j k hj=> ?_,fun l hl=> ?_⟩
  ·by_cases hb':b<w.heap.size
   ·by_cases hv:blk v=some b
    ·exact .inr (.inr hv)
    ·exact absurd ⟨hb',hv⟩ hb
   ·exact .inr (.inl (by omega))
  ·cases k with
   |zero=>exact ⟨us0,hown,hden.keep (fun _ _ _=>rfl) hok,hone,fun b hb ho=>ho.2 hb⟩
   |succ k=>show qiu _ _ _ _ _ _ (tat [B.row 0 e size bytes xs] (k+1));rw [ht0];trivial
  ·cases j with
   |zero=>
    cases k with
    |zero=>rfl
    |succ k=>rw [show (⟨_, [B.row 0 e size bytes xs]⟩:St).t= [B.row 0 e size bytes xs] from rfl,ht0] at hk;simp [B.live] at hk
   |succ j=>rw [show (⟨_, [B.row 0 e size bytes xs]⟩:St).t= [B.row 0 e size bytes xs] from rfl,ht0] at hj;simp [B.live] at hj
  ·have k1:qao w ι0 (qap (tat [B.row 0 e size bytes xs])) (okT bs (tat [B.row 0 e size bytes xs]) ι0) (args.map .d) us:=qao.ofDen (hd.keep (fun _ _ _=>rfl) hok)
   have k2:qao w ι0 (qap (tat [B.row 0 e size bytes xs])) (okT bs (tat [B.row 0 e size bytes xs]) ι0) (List.replicate (fn.ntmps-(args.length+1)) .top) (List.replicate (fn.ntmps-(us.length+1)) undef):=by
    refine ⟨by simp [hd.1],fun i c u hc hu=> ?_⟩
    rw [List.getElem?_replicate] at hc
    split at hc
    ·simp at hc;subst hc;exact .top
    ·simp at hc
   have k3:=qao.cons (c:= .own 0 0) (u:=v) (.own (qaQ rfl) fun _=>rfl) (k1.append k2)
   simpa using k3
  ·cases k with
   |zero=>trivial
   |succ k=>show qd0 _ _ _ _ _ _ _ (tat [B.row 0 e size bytes xs] (k+1));rw [ht0];trivial
  ·cases j with
   |zero=>simp [tat,B.isLoop] at hj
   |succ j=>rw [show (⟨_, [B.row 0 e size bytes xs]⟩:St).t= [B.row 0 e size bytes xs] from rfl,ht0] at hj;simp [B.isLoop] at hj
  ·simp at hl
 refine wpIn_mono (h 0 old bs _ _ w _ hrel) ?_
 rintro e' a' W' ⟨x,st,ι,rfl,hfin,hr⟩
 have hx:x= .ret\/x= .normal:=by cases x<;>simp [qzJ] at hfin ⊢
 obtain ⟨r,k,ver,bytes',hrs,hlk,hk⟩: ∃r k ver bytes,fn.results.toList= [.tmp r] /\lk st.env r= .own k ver/\tat st.t k= .row ver e size bytes ys:=by
  have hfin:(match fn.results.toList with
   | [.tmp r] =>match lk st.env r with
    | .own k ver=>match qcY st.t k with
     | .row v e' size' _ xs=>ver=v/\e'=e/\size'=size/\xs=ys
     |_=>False
    |_=>False
   |_=>False):=by cases x<;>first|exact hfin.elim|exact hfin
  split at hfin
  ·rename_i r hrs
   split at hfin
   ·rename_i k ver hlk
    rw [qbd] at hfin
    split at hfin
    ·rename_i v' e' size' bytes' xs' hk
     obtain ⟨rfl,rfl,rfl,rfl⟩:=hfin
     exact ⟨r,k,ver,bytes',hrs,hlk,hk⟩
    ·exact hfin.elim
   ·exact hfin.elim
  ·exact hfin.elim
 have hout:=hr.out (n:=0) (P:=P) (fn:=fn) (R:=fun r w'=> ∃v' vs,r= .returned v'/\w'.ownsRow 0 e size v' ys.length vs/\qaM w' (fun b=>(ok b\/w.heap.size<=b)/\blk v'≠some b) (flat ys) vs/\(∀(i:Nat) (u:Value),vs[i]? =some u->u.oneCell'=true)/\
   (∀b,blk v'=some b->blk v=some b\/w.heap.size<=b)/\w.grownBy w' (blk v)) fun W2 hr=>by
  have hs:=hr.ev (.tmp r)
  simp only [ev,Act.eval] at hs
  rw [qkw] at hlk
  rw [hlk] at hs
  have hv:=qcw hs (qbl hk)
  have hrun:(results fn a'.tmps).run P W2= .ok (ι k) W2:=by
   have e1:results fn a'.tmps=(do let vs<-fn.results.mapM (qbK a'.tmps);pure (if h:vs.size=1 then vs[0] else .tuple vs)):=rfl
   have e2:fn.results.mapM (qbK a'.tmps)=List.toArray<$>fn.results.toList.mapM (qbK a'.tmps):=by
    rw [Array.mapM_eq_mapM_toList]
   rw [e1,e2,hrs]
   simp [qbK,hv]
  have he:=hr.tok.ent k
  rw [hk] at he
  obtain ⟨vs,ho,hden,h1,hnew⟩:=he
  have hbv: ∀b,blk (ι k)=some b->blk v=some b\/w.heap.size<=b:=fun b hb=>by
   by_cases hv:blk v=some b
   ·exact .inl hv
   ·refine .inr (Nat.le_of_not_lt fun hlt=>hnew b hb ⟨hlt,hv⟩)
  have hden':qaM W2 (fun b=>(ok b\/w.heap.size<=b)/\blk (ι k)≠some b) (flat ys) vs:=hden.free hnp
  exact ⟨ι k,hrun,ι k,vs,rfl,ho,hden',h1,hbv,⟨hr.fr.os,hr.fr.tape,hr.fr.output,hr.fr.size,fun b hb hne=>hr.fr.block b ⟨hb,fun e=>hne e.symm⟩⟩⟩
 rcases hx with rfl|rfl
 ·exact hout
 ·exact hout
section
variable (E:Ev) (C:(Tmp->Bool)->Code->St->(Ex->St->R)->R)
def qyG(g:FuncId)(e:TypeId)(size bytes:Nat)(xs ds:List D):R:=match qiY E g with
 |some (fn,c)=>C (E.mu g) c (qqP ds e size bytes xs fn.ntmps) fun x st=>match x with
  | .exit _=>none
  |_=>match fn.results.toList with
   | [.tmp r] =>match lk st.env r with
    | .own k ver=>match qcY st.t k with
     | .row v e' size' _ ys=>match Nat.beq ver v&&(Nat.beq e' e&&Nat.beq size' size) with
      |true=>some ys
      |false=>none
     |_=>none
    |_=>none
   |_=>none
 |none=>none
end
theorem qos{E:Ev}{C:(Tmp->Bool)->Code->St->(Ex->St->R)->R}(hm:E.P.follows .mixedOrders=true)(hT:qcG E.P E.T)(hfn: ∀g fn,lkO E.fns g=some fn->E.P.funcs[g]? =some fn)
  (hC: ∀mu c st K r,C mu c st K=some r->Ok E.P c st fun e st'=>K e st'=some r) {g:FuncId} {e:TypeId} {size bytes:Nat} {xs ds ys:List D} (hnp:qgt (flat ys)=true) (h:qyG E C g e size bytes xs ds=some ys):qna E.P g e size ds xs ys:=by
 unfold qyG at h
 split at h
 ·rename_i fn c hb
  obtain ⟨h1,h2,h3⟩:=qez hfn hb
  refine qoK (bytes:=bytes) hm hT h1 h2 h3 hnp ((hC _ _ _ _ _ h).mono fun x st hk=> ?_)
  have key: ∀x,x= .normal\/x= .ret->(match fn.results.toList with
   | [.tmp r] =>match lk st.env r with
    | .own k ver=>match qcY st.t k with
     | .row v e' size' _ ys=>match Nat.beq ver v&&(Nat.beq e' e&&Nat.beq size' size) with
      |true=>some ys
      |false=>none
     |_=>none
    |_=>none
   |_=>none)=some ys->qzJ fn.results.toList e size ys x st:=by
   intro x hx hk
   have:(match fn.results.toList with
    | [.tmp r] =>match lk st.env r with
     | .own k ver=>match qcY st.t k with
      | .row v e' size' _ xs=>ver=v/\e'=e/\size'=size/\xs=ys
      |_=>False
     |_=>False
    |_=>False):=by
    split at hk
    ·split at hk
     ·split at hk
      ·split at hk
       ·rename_i hb2
        simp only [Bool.and_eq_true] at hb2
        simp at hk
        exact ⟨Nat.eq_of_beq_eq_true hb2.1,Nat.eq_of_beq_eq_true hb2.2.1,Nat.eq_of_beq_eq_true hb2.2.2,hk⟩
       ·simp at hk
      ·simp at hk
     ·simp at hk
    ·simp at hk
   rcases hx with rfl|rfl<;>exact this
  cases x with
  |exit i=>simp at hk
  |normal=>exact key _ (.inl rfl) hk
  |ret=>exact key _ (.inr rfl) hk
 ·simp at h
end Go.Nv
end
section
namespace Go.Nv
open Go.RowKit
theorem qlA{P:Program}{W:World}{len cap l h m:Nat}(h1:l<=h)(h2:h<=m)(h3:m<=cap):
  (Instr.sliceBounds true len cap (some (.int .i64 (l:Int))) (some (.int .i64 (h:Int))) (some (.int .i64 (m:Int)))).run P W= .ok (l,h,m) W:=by
 have hb: ∀(n y:Nat) (code:BoundsCode),n<=y->(Instr.sliceBound (.int .i64 (n:Int)) y code).run P W= .ok n W:=by
  intro n y code g1
  have g2:(n:Int)<=(y:Int):=by omega
  simp [Instr.sliceBound,asIntOf,g2]
 unfold Instr.sliceBounds
 simp [hb m cap _ h3,hb h m _ h2,hb l h _ h1]
theorem qfs{E:Ev}(hT:qcG E.P E.T):qlG E:=by
 intro xt x lo hi m o st K r hop hv
 unfold qvO at hv
 split at hv
 ·rename_i xs l h mm e1 e2 e3 e4
  split at hv
  ·rename_i i hi'
   split at hv
   ·rename_i ee hee
    split at hv
    ·rename_i j hj
     split at hv
     ·rename_i ht
      simp only [Bool.and_eq_true] at ht
      obtain ⟨t1,t2,t3,t4,t5⟩:=ht
      rw [Nat.blt_eq] at t1
      rw [Nat.ble_eq] at t2 t3 t4
      rw [qaT] at t4
      rw [qbN] at t5
      rw [qel,qbq,qe4] at hv
      have het:qbw E.P xt=some ee:=by
       rcases (hT _ _ hi').elem with h0|h0
       ·rw [h0] at hee;simp at hee
       ·rw [h0,hee]
      have hcl:=(hT _ _ hj).cells
      rw [<-hcl] at t1 t5
      intro n old bs w0 a W ι Kw Q hr hK
      have hxx:=hr.ev x
      have hx2:=hr.ev lo
      have hx3:=hr.ev hi
      have hx4:=hr.ev m
      rw [qbe] at e1 e2 e3 e4
      rw [e1] at hxx
      rw [e2] at hx2
      rw [e3] at hx3
      rw [e4] at hx4
      refine qc5 hr (val:= .d (.l (qcu xs l h))) (upd:=none) ?_ (by intro c hc;rw [hop] at hc;cases hc) fun a' W' ι' _ hrel=>hK _ _ _ ι' hv hrel
      obtain ⟨A,cap,hvv,hcap,hcm,hAn,hrow⟩:=qu7 hxx
      have hut:=qbJ het
      have v2:=(qdg hx2).1
      have v3:=(qdg hx3).1
      have v4:=(qdg hx4).1
      have hb:=qlA (P:=E.P) (W:=W) (len:=xs.length) (cap:=cap) t2 t3 (by omega)
      have hrun:(execOp a.eval o).run E.P W= .ok (.value (.slice (if mm=l then A else A.map (·.add (l*E.P.cellsOf ee))) (h-l) (mm-l))) W:=by
       simp [execOp,hop,Instr.sliceAt,Instr.slice,underlying,hut,hvv,v2,v3,v4,hb,qbb (Nat.ne_of_gt t1)]
      refine qbg.pure hr.tok hrun ?_
      have hlen:(qcu xs l h).length=h-l:=by simp [qcu];omega
      by_cases hz:h-l=0
      ·have e0:qcu xs l h= [] :=List.eq_nil_of_length_eq_zero (by omega)
       rw [e0,hz]
       refine .d (.l0 (by omega) fun hn=> ?_)
       split at hn
       ·omega
       ·have:=hAn (by simpa using hn);omega
      ·rw [<-hlen]
       have hne:flat xs≠ [] :=by
        intro hn
        have h2:=qbi t5
        rw [hn] at h2
        have:0<xs.length*E.P.cellsOf ee:=Nat.mul_pos (by omega) t1
        simp at h2;omega
       obtain ⟨b,off,us,rfl,hne',hok,hc,hd,h1'⟩:=hrow hne
       rw [if_neg (by omega)]
       simp only [Option.map_some,qbz]
       have hut2:Uni (E.P.cellsOf ee) (xs.take h):=fun y hy=>t5 y (List.mem_of_mem_take hy)
       have e1':flat (qcu xs l h)=((flat xs).take (h*E.P.cellsOf ee)).drop (l*E.P.cellsOf ee):=by unfold qcu;rw [qeh hut2,qfV t5]
       have e2':=(hd.take (h*E.P.cellsOf ee)).drop (l*E.P.cellsOf ee)
       rw [<-e1'] at e2'
       have hfl:=qbi (size:=E.P.cellsOf ee) (xs:=qcu xs l h) (fun y hy=>hut2 y (List.mem_of_mem_drop hy))
       refine .d (.l ?_ e2'.1 hok ?_ e2'.2 ?_ (by omega) (by omega))
       ·intro hn
        have:=e2'.1
        rw [hn,hfl,hlen] at this
        have:0<(h-l)*E.P.cellsOf ee:=Nat.mul_pos (by omega) t1
        simp at*;omega
       ·intro i u hu'
        rw [List.getElem?_drop,List.getElem?_take] at hu'
        split at hu'
        ·have:=hc _ _ hu'
         rwa [show off+(l*E.P.cellsOf ee+i)=off+l*E.P.cellsOf ee+i from by omega] at this
        ·simp at hu'
       ·exact qf0 h1' fun u hu'=>List.mem_of_mem_take (List.mem_of_mem_drop hu')
     ·simp at hv
    ·simp at hv
   ·simp at hv
  ·simp at hv
 ·simp at hv
end Go.Nv
end
