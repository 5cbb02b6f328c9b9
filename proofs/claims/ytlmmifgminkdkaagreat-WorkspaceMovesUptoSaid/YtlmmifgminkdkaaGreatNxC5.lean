import Derived.KernelRfl
import Derived.Test.YtlmmifgminkdkaaGreatNxC4
import Derived.Test.YtlmmifgminkdkaaGreatNxN6
import Derived.Test.YtlmmifgminkdkaaGreatNxN5
import Derived.Test.YtlmmifgminkdkaaGreatNxN3
import Derived.Test.YtlmmifgminkdkaaGreatNxT1
import Derived.Test.YtlmmifgminkdkaaGreatNxN2
set_option linter.all false
set_option maxRecDepth 100000
section
namespace Go.Nv
open Go.Proofs Nw
abbrev quR(a b c d:RD):D:= .a [.v (.bool a.neg),.v (.string a.num),.v (.string a.den),.v (.bool b.neg),.v (.string b.num),.v (.string b.den),
 .v (.bool c.neg),.v (.string c.num),.v (.string c.den),.v (.bool d.neg),.v (.string d.num),.v (.string d.den)]
@[irreducible] def vbB(a b c d:RD):Bool:=decide (okP a b=0/\okP c d=0/\a.val<c.val/\b.val<d.val)
theorem qdJ{p q:Rat}:qdk p q<0↔p<q:=by
 rw [qed];unfold qte;split<;>(try split)<;>simp_all
theorem qjD{x y:Rat}(hx:Q x)(hy:Q y):Fun Tryz.prog 30 [ptD x y] [i64 0] :=by
 have h:=qfq (canon x) (canon y) hx.sz hy.sz
 rw [qdO.2 ⟨by rw [qar],by rw [qar]⟩] at h
 have e:ptD x y=ptR (canon x) (canon y):=by unfold ptD ptR qel qeC qeB;rfl
 rw [e];exact h
theorem qve(r s t w:RD):qdH [.v (.bool r.neg),.v (.string r.num),.v (.string r.den),.v (.bool s.neg),.v (.string s.num),.v (.string s.den)] [.v (.bool t.neg),.v (.string t.num),.v (.string t.den),.v (.bool w.neg),.v (.string w.num),.v (.string w.den)] =decide (r=t/\s=w):=by
 obtain ⟨a,b,c⟩:=r
 obtain ⟨a',b',c'⟩:=s
 obtain ⟨u,v,w1⟩:=t
 obtain ⟨u',v',w1'⟩:=w
 simp only [qdH,eqD,eqV,qbN,Bool.and_true,RD.mk.injEq]
 rw [Bool.eq_iff_iff]
 simp only [Bool.and_eq_true,decide_eq_true_eq,beq_iff_eq]
 constructor
 ·rintro ⟨h1,h2,h3,h4,h5,h6⟩;exact ⟨⟨h1,h2,h3⟩,h4,h5,h6⟩
 ·rintro ⟨⟨h1,h2,h3⟩,h4,h5,h6⟩;exact ⟨h1,h2,h3,h4,h5,h6⟩
theorem qs1(x y u v:Rat):qdH [.v (.bool (qel x)),.v (.string (qeC x)),.v (.string (qeB x)),.v (.bool (qel y)),.v (.string (qeC y)),.v (.string (qeB y))] [.v (.bool (qel u)),.v (.string (qeC u)),.v (.string (qeB u)),.v (.bool (qel v)),.v (.string (qeC v)),.v (.string (qeB v))] =decide (x=u/\y=v):=by
 unfold qel qeC qeB
 rw [qve,decide_eq_decide]
 constructor
 ·rintro ⟨h1,h2⟩;have h3:=congrArg RD.val h1;have h4:=congrArg RD.val h2;rw [qar,qar] at h3 h4;exact ⟨h3,h4⟩
 ·rintro ⟨rfl,rfl⟩;exact ⟨rfl,rfl⟩
def qBl:Code->List (Code×Code)
 | .seq a b=>qBl a++qBl b
 | .block _ b=>qBl b
 | .rangeFunc _ _ a b=> [(a,b)]
 |_=> []
def gtR(r:RD):Bool:=decide (12<r.num.size)||decide (12<r.den.size)
theorem qz5{s:ByteArray}(h:s.size<=12):bv s<=256^12:=Nat.le_trans (Nat.le_of_lt (qaV _)) (Nat.pow_le_pow_right (by omega) h)
theorem qx8{r:RD}(h:gtR r=false):Bd 12 r.val:=by
 unfold gtR at h
 simp at h
 refine qgL (qhb _) ?_ ?_
 ·show (sg r.neg (bv r.num)).natAbs<=_
  rw [qdU];exact qz5 h.1
 ·have:=qz5 h.2
  unfold dv
  split<;>omega
end Go.Nv
end
section
namespace Go.Nv
open Go.RowKit Go.Proofs
theorem qhm{P:Program}(w:World)(t t2 ty e:TypeId)(i:TypeInfo)(z:Value)(ik:IntKind)(ht:P.underlying t=some (.slice e))(ht2:P.underlying t2=some (.int ik))(hi:P.info? e=some i)(hz:i.zero=some z)(hzs:z.cells.size=i.size)
  (n:Nat) (h0:0<n) (h63:(n:Int)<=1000000000) (hby:i.bytes<=4096) (hs:0<i.size):
  (Builtin.append_ #[t,t2] ty #[.slice none 0 0,.int .i64 n]).run P w=
   .ok (.slice (some ⟨w.heap.size,0,none⟩) n (grownCap w n 0 e))
    (w.drew.alloc (.cells (Builtin.zeroCells z.cells n++Builtin.zeroCells z.cells (grownCap w n 0 e-n)) e)):=by
 have hn: ¬n=0:=by omega
 have hmul:n*i.bytes<=1000000000*4096:=Nat.mul_le_mul (by omega) hby
 have hfit:=growslice_fits (need:=n) (old:=0) (bytes:=i.bytes) h0 (by omega)
 have h48: ¬(281474976710656<Builtin.nextslicecap n 0*i.bytes):=by omega
 have hmul': ¬(281474976710656:Int)<(n:Int)*(i.bytes:Int):=by
  rw [<-Int.natCast_mul];omega
 have hw:IntKind.i64.wrap (n:Int)=n:=by
  rw [IntKind.wrap_i64];omega
 have hneg: ¬((n:Int)<0):=by omega
 have hcap: ¬((9223372036854775807:Int)<n):=by omega
 have hsz: ¬i.size=0:=by omega
 simp [Builtin.append_,run_underlying ht,run_underlying ht2,sizeOf,typeInfo,zeroValue,hi,hz,Builtin.lenOf,hn,hsz,h48,hmul',hw,Question.forced,newRow,grownCap,asInt,asIntOf,Builtin.firstCells,hneg,hcap]
 intro h
 exact absurd h (by have:=Nat.mul_pos h0 hs;omega)
theorem qvF{P:Program}{r:Option Nat}{n:Nat}{o:Oper}{a:Act}{W W':World}{v:Value}{K:Act->World->Prop}{Q:Exit->Act->World->Prop}(hnd: ∀c,o.op≠ .defer c)
  (hrun:(execOp a.eval o).run P W= .ok (.value v) W') (hK:K (a.put o.dst v) W'):o.wpIn (FW r) n P a W K Q:=by
 refine ⟨fun f _=>FW.fn r f, ?_⟩
 rw [Oper.semAt_eq _ _ _ hnd,hrun];exact hK
def wpL(P:Program)(Q:Act->World->Prop):List Oper->Act->World->Prop
 | [],a,W=>Q a W
 |o::l,a,W=>o.guard=none/\(∀c,o.op≠ .defer c)/\ ∃v W',(execOp a.eval o).run P W= .ok (.value v) W'/\wpL P Q l (a.put o.dst v) W'
theorem qcP{P:Program}{r:Option Nat}{n id:Nat}{ops:Array Oper}{a:Act}{W:World}{Q:Exit->Act->World->Prop}(h:wpL P (Q .normal) ops.toList a W):(Code.region id ops false).wpIn (FW r) n P Q a W:=by
 refine wpIn_region ?_
 have key: ∀(l:List Oper) (i:Nat) (a:Act) (W:World),ops.toList.drop i=l->wpL P (Q .normal) l a W->wpOpsIn (FW r) n P ops Q (List.range' i l.length) a W:=by
  intro l
  induction l with
  |nil=>intro i a W _ h;exact h
  |cons o l ih=>
   intro i a W hd h
   obtain ⟨hg,hnd,v,W',hrun,hk⟩:=h
   have hoi:ops[i]? =some o:=by
    have:(ops.toList.drop i)[0]? =some o:=by rw [hd];rfl
    simpa using this
   have hd':ops.toList.drop (i+1)=l:=by
    rw [<-List.drop_drop,hd];rfl
   rw [List.length_cons,List.range'_succ]
   simp only [wpOpsIn,hoi]
   rw [if_pos (by simp [Region.wanted,hg])]
   exact qvF hnd hrun (ih (i+1) _ _ hd' hk)
 rw [List.range_eq_range']
 have:=key ops.toList 0 a W (by simp) h
 simpa using this
theorem quB{P:Program}{o:Oper}{ev:Operand->Value}{W:World}{ts:Array TypeId}{a:Operand}{x v:Value}(ho:o.op= .call {callee:= .builtin .cap,args:= #[a],argTypes:=ts})(hx:ev a=x)(h:(Builtin.cap_ ts o.type #[x]).run P W= .ok v W):
  (execOp ev o).run P W= .ok (.value v) W:=by
 simp [execOp,ho,resolve,invoke,builtin,hx,h,Result.andThen]
theorem qtx{P:Program}{o:Oper}{ev:Operand->Value}{W:World}{t e:TypeId}{a:Operand}{x:Option Addr}{m c:Nat}(ho:o.op= .call {callee:= .builtin .len,args:= #[a],argTypes:= #[t] })(hx:ev a= .slice x m c)(ht:P.underlying t=some (.slice e)):
  (execOp ev o).run P W= .ok (.value (.int .i64 m)) W:=by
 simp [execOp,ho,resolve,invoke,builtin,hx,run_underlying ht,Builtin.len_,Result.andThen,goInt]
def stA(l:List Value):Act:={tmps:=l.toArray,defers:= [] }
theorem qvL(l:List Value)(t:Nat)(v:Value):(stA l).put (some t) v=stA (l.set t v):=by
 simp [stA,Act.put]
theorem qaB(l:List Value)(t:Nat):(stA l).eval (.tmp t)=(l[t]?).getD undef:=by
 simp [stA,Act.eval,Array.getD_eq_getD_getElem?]
theorem ql9(l:List Value)(v:Value):(stA l).eval (.const v)=v:=rfl
theorem qat{P:Program}{Q:Act->World->Prop}{o:Oper}{os:List Oper}{l:List Value}{W W':World}{t:Nat}{v:Value}(hg:o.guard=none)(hd:o.dst=some t)(hnd: ∀c,o.op≠ .defer c)
  (hrun:(execOp (stA l).eval o).run P W= .ok (.value v) W') (hk:wpL P Q os (stA (l.set t v)) W'):wpL P Q (o::os) (stA l) W:=by
 refine ⟨hg,hnd,v,W',hrun, ?_⟩
 rw [hd,qvL];exact hk
theorem qde{P:Program}{o:Oper}{ev:Operand->Value}{W:World}{a:Operand}{x:Value}(ho:o.op= .move a\/o.op= .assign a)(hx:ev a=x):(execOp ev o).run P W= .ok (.value x) W:=by
 rcases ho with ho|ho<;>simp [execOp,ho,hx]
theorem qz6{P:Program}{o:Oper}{ev:Operand->Value}{W:World}{t e:TypeId}{a b:Operand}{A:Option Addr}{m c:Nat}(ho:o.op= .slice t a none (some b) none)(hx:ev a= .slice A m c)(hb:ev b= .int .i64 0)(ht:P.underlying t=some (.slice e))(hp:P.cellsOf e≠0):
  (execOp ev o).run P W= .ok (.value (.slice (if c=0 then A else A.map (·.add 0)) 0 c)) W:=by
 have h1:(Instr.sliceBounds true m c none (some (.int .i64 0)) none).run P W= .ok (0,0,c) W:=by
  have hs: ∀(y:Nat) (code:BoundsCode),(Instr.sliceBound (.int .i64 0) y code).run P W= .ok 0 W:=by
   intro y code
   simp [Instr.sliceBound,asIntOf]
  unfold Instr.sliceBounds
  simp [hs]
 simp [execOp,ho,Instr.sliceAt,Instr.slice,underlying,ht,hx,hb,h1,qa8 hp]
theorem qew{F:Fence}{n:Nat}{P:Program}{fn:Func}{tmps:Array Value}{R:Ending->World->Prop}{W:World}{v:Value}(h:(results fn tmps).run P W= .ok v W)(hR:R (.returned v) W):LeavesInM F n P fn tmps R [] .returning W:=⟨v,h,hR⟩
theorem qp7{P:Program}{o:Oper}{ev:Operand->Value}{W W':World}{t t2:TypeId}{a b:Operand}{x y v:Value}(ho:o.op= .call {callee:= .builtin .append,args:= #[a,b],argTypes:= #[t,t2] })(hx:ev a=x)(hy:ev b=y)(h:(Builtin.append_ #[t,t2] o.type #[x,y]).run P W= .ok v W'):
  (execOp ev o).run P W= .ok (.value v) W':=by
 simp [execOp,ho,resolve,invoke,builtin,hx,hy,h,Result.andThen]
theorem qAI(n:Nat)(hn:n<=1000000):qpM Tryz.prog 350 [.v (.slice none 0 0),.v (.int .i64 n)] 25 6 [] :=by
 refine ⟨⟨_,Tryz.func350,rfl,rfl⟩,fun w ok us hd=> ?_⟩
 obtain ⟨u0,u1,rfl,h0,h1⟩: ∃u0 u1,us= [u0,u1] /\u0= .slice none 0 0/\u1= .int .i64 n:=by
  match us,hd with
  | [u0,u1],hd=>
   have a:=hd.2 0 _ _ rfl rfl
   have b:=hd.2 1 _ _ rfl rfl
   cases a;cases b
   exact ⟨_,_,rfl,rfl,rfl⟩
  | [],hd=>have:=hd.1;simp at this
  | [_],hd=>have:=hd.1;simp at this
  |_::_::_::_,hd=>have:=hd.1;simp at this
 subst h0;subst h1
 have hw:IntKind.i64.wrap (n:Int)=n:=by rw [IntKind.wrap_i64];omega
 have hlt:decide ((n:Int)<0)=false:=decide_eq_false (by omega)
 refine (callsIn_wide (n:=0)).1 (callsIn_of_wp_marks (F:=FW none) Tryz.func350 rfl (FW.fn none 348) ?_ rfl)
 have ha:(([.slice none 0 0,.int .i64 (n:Int)] :List Value).toArray++Array.replicate (Tryz.f350.ntmps-([.slice none 0 0,.int .i64 (n:Int)] :List Value).toArray.size) undef)= #[.slice none 0 0,.int .i64 (n:Int),undef,undef,undef,undef,undef,undef,undef,undef,undef,undef,undef,undef,undef,undef,undef,undef,undef,undef,undef,undef,undef,undef,undef,undef,undef] :=by
  apply Array.ext'
  rw [Array.toList_append,Array.toList_replicate]
  rfl
 rw [ha]
 clear ha
 show Code.wpIn _ _ _ _ _ (stA [.slice none 0 0,.int .i64 (n:Int),undef,undef,undef,undef,undef,undef,undef,undef,undef,undef,undef,undef,undef,undef,undef,undef,undef,undef,undef,undef,undef,undef,undef,undef,undef]) _
 refine wpIn_seq (qcP ?_)
 refine qat (v:= .slice none 0 0) (W':=w) rfl rfl (by intro c h;cases h) (qde (.inr rfl) (ql9 _ _)) ?_
 simp only [List.set_cons_zero,List.set_cons_succ]
 refine wpIn_seq (wpIn_seq (qcP ?_))
 refine qat (v:= .int .i64 (n:Int)) (W':=w) rfl rfl (by intro c h;cases h) (qde (.inl rfl) ((qaB _ _).trans rfl)) ?_
 simp only [List.set_cons_zero,List.set_cons_succ]
 refine qat (v:= .bool (decide ((n:Int)<0))) (W':=w) rfl rfl (by intro c h;cases h) (qeh rfl ((qaB _ _).trans rfl) (ql9 _ _) rfl rfl) ?_
 simp only [List.set_cons_zero,List.set_cons_succ]
 refine wpIn_cond_false (by rw [qaB];exact congrArg Value.bool hlt) (wpIn_skip ?_)
 refine wpIn_seq (wpIn_seq (qcP ?_))
 refine qat (v:= .int .i64 (n:Int)) (W':=w) rfl rfl (by intro c h;cases h) (qde (.inl rfl) ((qaB _ _).trans rfl)) ?_
 simp only [List.set_cons_zero,List.set_cons_succ]
 refine qat (v:= .slice none 0 0) (W':=w) rfl rfl (by intro c h;cases h) (qde (.inl rfl) ((qaB _ _).trans rfl)) ?_
 simp only [List.set_cons_zero,List.set_cons_succ]
 refine qat (v:= .int .i64 0) (W':=w) rfl rfl (by intro c h;cases h) (quB rfl ((qaB _ _).trans rfl) (by simp [Builtin.cap_,run_underlying Tryz.underlying40];rfl)) ?_
 simp only [List.set_cons_zero,List.set_cons_succ]
 refine qat (v:= .slice none 0 0) (W':=w) rfl rfl (by intro c h;cases h) (qde (.inl rfl) ((qaB _ _).trans rfl)) ?_
 simp only [List.set_cons_zero,List.set_cons_succ]
 refine qat (v:= .int .i64 0) (W':=w) rfl rfl (by intro c h;cases h) (qtx (m:=0) rfl ((qaB _ _).trans rfl) Tryz.underlying40) ?_
 simp only [List.set_cons_zero,List.set_cons_succ]
 refine qat (v:= .int .i64 0) (W':=w) rfl rfl (by intro c h;cases h) (qeh rfl ((qaB _ _).trans rfl) ((qaB _ _).trans rfl) rfl ⟨rfl,by show (-9223372036854775808:Int)<=0-0/\(0:Int)-0<=9223372036854775807;omega⟩) ?_
 simp only [List.set_cons_zero,List.set_cons_succ]
 refine qat (v:= .int .i64 ((n:Int)-0)) (W':=w) rfl rfl (by intro c h;cases h) (qeh rfl ((qaB _ _).trans rfl) ((qaB _ _).trans rfl) rfl ⟨rfl,by show (-9223372036854775808:Int)<=n-0/\(n:Int)-0<=9223372036854775807;omega⟩) ?_
 simp only [List.set_cons_zero,List.set_cons_succ]
 rw [show (n:Int)-0=n by omega]
 refine qat (v:= .int .i64 (n:Int)) (W':=w) rfl rfl (by intro c h;cases h) (qde (.inr rfl) ((qaB _ _).trans rfl)) ?_
 simp only [List.set_cons_zero,List.set_cons_succ]
 refine wpIn_seq (qcP ?_)
 refine qat (v:= .int .i64 (n:Int)) (W':=w) rfl rfl (by intro c h;cases h) (qde (.inl rfl) ((qaB _ _).trans rfl)) ?_
 simp only [List.set_cons_zero,List.set_cons_succ]
 refine qat (v:= .bool (decide ((0:Int)<n))) (W':=w) rfl rfl (by intro c h;cases h) (qeh rfl ((qaB _ _).trans rfl) (ql9 _ _) rfl rfl) ?_
 simp only [List.set_cons_zero,List.set_cons_succ]
 have bel0:Below w.heap.size w w:=⟨rfl,rfl,rfl,Nat.le_refl _,fun _ _=>rfl⟩
 by_cases h0:n=0
 ·subst h0
  refine wpIn_cond_false (by rw [qaB];rfl) (wpIn_skip ?_)
  refine wpIn_seq (qcP ?_)
  refine qat (v:= .slice none 0 0) (W':=w) rfl rfl (by intro c h;cases h) (qde (.inl rfl) ((qaB _ _).trans rfl)) ?_
  simp only [List.set_cons_zero,List.set_cons_succ]
  refine qat (v:= .slice none 0 0) (W':=w) rfl rfl (by intro c h;cases h) (qde (.inr rfl) ((qaB _ _).trans rfl)) ?_
  simp only [List.set_cons_zero,List.set_cons_succ]
  refine wpIn_ret ?_
  refine qew (v:= .slice none 0 0) (by simp [results,Tryz.f350,stA]) ⟨.slice none 0 0, [],rfl,⟨rfl,.inl ⟨rfl,rfl⟩⟩,qaO.nil _ _,by simp,bel0⟩
 ·obtain ⟨ti,z,hi,hz,hsz,hby,hzs⟩:=qhk (P:=Tryz.prog) (e:=25) (size:=6) (bytes:=80) (by kernel_rfl)
  have hmk:=qhm (P:=Tryz.prog) w 40 3 40 25 ti z _ Tryz.underlying40 Tryz.underlying3 hi hz (by omega) n (by omega) (by omega) (by omega) (by omega)
  obtain ⟨w1,hw1⟩: ∃w1,w1=w.drew.alloc (.cells (Builtin.zeroCells z.cells n++Builtin.zeroCells z.cells (grownCap w n 0 25-n)) 25):=⟨_,rfl⟩
  rw [<-hw1] at hmk
  refine wpIn_cond_true (by rw [qaB];exact congrArg Value.bool (decide_eq_true (by omega))) (qcP ?_)
  refine qat (v:= .slice none 0 0) (W':=w) rfl rfl (by intro c h;cases h) (qde (.inl rfl) ((qaB _ _).trans rfl)) ?_
  simp only [List.set_cons_zero,List.set_cons_succ]
  refine qat (v:= .slice none 0 0) (W':=w) rfl rfl (by intro c h;cases h) (qde (.inl rfl) ((qaB _ _).trans rfl)) ?_
  simp only [List.set_cons_zero,List.set_cons_succ]
  refine qat (v:= .int .i64 0) (W':=w) rfl rfl (by intro c h;cases h) (quB rfl ((qaB _ _).trans rfl) (by simp [Builtin.cap_,run_underlying Tryz.underlying40];rfl)) ?_
  simp only [List.set_cons_zero,List.set_cons_succ]
  refine qat (v:= .slice none 0 0) (W':=w) rfl rfl (by intro c h;cases h) (qz6 (A:=none) (c:=0) rfl ((qaB _ _).trans rfl) ((qaB _ _).trans rfl) Tryz.underlying40 (by decide)) ?_
  simp only [List.set_cons_zero,List.set_cons_succ]
  refine qat (v:= .int .i64 (n:Int)) (W':=w) rfl rfl (by intro c h;cases h) (qde (.inl rfl) ((qaB _ _).trans rfl)) ?_
  simp only [List.set_cons_zero,List.set_cons_succ]
  refine qat (v:=(.slice (some ⟨w.heap.size,0,none⟩) n (grownCap w n 0 25))) (W':=w1) rfl rfl (by intro c h;cases h) (qp7 rfl ((qaB _ _).trans rfl) ((qaB _ _).trans rfl) hmk) ?_
  simp only [List.set_cons_zero,List.set_cons_succ]
  refine qat (v:= .slice none 0 0) (W':=w1) rfl rfl (by intro c h;cases h) (qde (.inl rfl) ((qaB _ _).trans rfl)) ?_
  simp only [List.set_cons_zero,List.set_cons_succ]
  refine qat (v:= .int .i64 0) (W':=w1) rfl rfl (by intro c h;cases h) (qtx (m:=0) rfl ((qaB _ _).trans rfl) Tryz.underlying40) ?_
  simp only [List.set_cons_zero,List.set_cons_succ]
  refine qat (v:=(.slice (if grownCap w n 0 25=0 then some ⟨w.heap.size,0,none⟩ else (some (⟨w.heap.size,0,none⟩:Addr)).map (·.add 0)) 0 (grownCap w n 0 25))) (W':=w1) rfl rfl (by intro c h;cases h) (qz6 (A:=some ⟨w.heap.size,0,none⟩) (c:=grownCap w n 0 25) rfl ((qaB _ _).trans rfl) ((qaB _ _).trans rfl) Tryz.underlying40 (by decide)) ?_
  simp only [List.set_cons_zero,List.set_cons_succ]
  have hA:(if grownCap w n 0 25=0 then some ⟨w.heap.size,0,none⟩ else (some (⟨w.heap.size,0,none⟩:Addr)).map (·.add 0))=some ⟨w.heap.size,0,none⟩:=by
   split
   ·rfl
   ·simp [Addr.add]
  rw [hA]
  refine qat (v:= .slice (some ⟨w.heap.size,0,none⟩) 0 (grownCap w n 0 25)) (W':=w1) rfl rfl (by intro c h;cases h) (qde (.inr rfl) ((qaB _ _).trans rfl)) ?_
  simp only [List.set_cons_zero,List.set_cons_succ]
  refine wpIn_seq (qcP ?_)
  refine qat (v:= .slice (some ⟨w.heap.size,0,none⟩) 0 (grownCap w n 0 25)) (W':=w1) rfl rfl (by intro c h;cases h) (qde (.inl rfl) ((qaB _ _).trans rfl)) ?_
  simp only [List.set_cons_zero,List.set_cons_succ]
  refine qat (v:= .slice (some ⟨w.heap.size,0,none⟩) 0 (grownCap w n 0 25)) (W':=w1) rfl rfl (by intro c h;cases h) (qde (.inr rfl) ((qaB _ _).trans rfl)) ?_
  simp only [List.set_cons_zero,List.set_cons_succ]
  refine wpIn_ret ?_
  have hge:=grownCap_ge w n 0 25
  have hcm:=grownCap_le_maxLen w n 0 25 (by simp only [maxLen];omega)
  refine qew (v:= .slice (some ⟨w.heap.size,0,none⟩) 0 (grownCap w n 0 25)) (by simp [results,Tryz.f350,stA]) ⟨_, [],rfl,⟨rfl,.inr ⟨w.heap.size,_,Builtin.zeroCells z.cells n++Builtin.zeroCells z.cells (grownCap w n 0 25-n),rfl,Nat.le_refl _, ?_,Nat.zero_le _,hcm, ?_, ?_⟩⟩,qaO.nil _ _,by simp, ?_⟩
  ·rw [hw1];exact heap_alloc_new w.drew _
  ·simp only [Array.size_append,size_zeroCells,hzs, <-Nat.add_mul]
   congr 1;omega
  ·simp
  ·rw [hw1];exact ⟨rfl,rfl,rfl,by simp,fun k hk=>by first|exact heap_alloc_old w.drew _ k hk|exact heap_alloc_old w.drew k hk|exact heap_alloc_old w.drew _ hk⟩
theorem qov{P:Program}{W:World}(n:Nat){t e:TypeId}(ht:P.underlying t=some (.slice e)):(Op.equalIn (n+1) t (.slice none 0 0) (.slice none 0 0)).run P W= .ok true W:=by
 unfold Op.equalIn
 simp [run_underlying ht]
theorem qA1{P:Program}{o:Oper}{ev:Operand->Value}{W:World}{t e:TypeId}{a b:Operand}(ho:o.op= .binOp .eql t a b t)(hx:ev a= .slice none 0 0)(hy:ev b= .slice none 0 0)(ht:P.underlying t=some (.slice e)):
  (execOp ev o).run P W= .ok (.value (.bool true)) W:=by
 have h:(Op.equal t (.slice none 0 0) (.slice none 0 0)).run P W= .ok true W:=qov 9999 ht
 simp [execOp,ho,hx,hy,eqGuard,binOp,h]
theorem qCO{P:Program}{o:Oper}{ev:Operand->Value}{W:World}{t e:TypeId}{i:TypeInfo}(ho:o.op= .buildSlice t 0 #[])(ht:P.underlying t=some (.slice e))(hi:P.info? e=some i):
  (execOp ev o).run P W= .ok (.value (.slice (some ⟨W.heap.size,0,none⟩) 0 0)) (W.alloc (.cells #[] e)):=by
 simp [execOp,ho,Instr.buildSlice,run_underlying ht,sizeOf,typeInfo,hi,newRow,Instr.fill]
 have:Array.range 0= #[] :=by simp [Array.range]
 rw [this,Array.map_empty]
theorem qvf(xs:List D)(hu:Uni 6 xs)(hl:xs.length<=1000000):qpM Tryz.prog 348 [.l xs] 25 6 xs:=by
 refine ⟨⟨_,Tryz.func348,rfl,rfl⟩,fun w ok us hd=> ?_⟩
 obtain ⟨u0,rfl,h0⟩: ∃u0,us= [u0] /\Den w ok (.l xs) u0:=by
  match us,hd with
  | [u0],hd=>exact ⟨u0,rfl,hd.2 0 _ _ rfl rfl⟩
  | [],hd=>have:=hd.1;simp at this
  |_::_::_,hd=>have:=hd.1;simp at this
 have hsd:qaF w (fun _=>undef) (fun _=>none) ok (.d (.l xs)) u0:= .d h0
 obtain ⟨A,cap,rfl,hcap,hcm,hAn,hrow⟩:=qt0 hsd
 refine (callsIn_wide (n:=0)).1 (callsIn_of_wp_marks (F:=FW none) Tryz.func348 rfl (FW.fn none 346) ?_ rfl)
 have ha:(([.slice A xs.length cap] :List Value).toArray++Array.replicate (Tryz.f348.ntmps-([.slice A xs.length cap] :List Value).toArray.size) undef)= #[.slice A xs.length cap,undef,undef,undef,undef,undef,undef,undef] :=by
  apply Array.ext'
  rw [Array.toList_append,Array.toList_replicate]
  rfl
 rw [ha]
 clear ha
 show Code.wpIn _ _ _ _ _ (stA [.slice A xs.length cap,undef,undef,undef,undef,undef,undef,undef]) _
 have bel0:Below w.heap.size w w:=⟨rfl,rfl,rfl,Nat.le_refl _,fun _ _=>rfl⟩
 refine wpIn_seq (qcP ?_)
 refine qat (v:= .slice none 0 0) (W':=w) rfl rfl (by intro c h;cases h) (qde (.inr rfl) (ql9 _ _)) ?_
 simp only [List.set_cons_zero,List.set_cons_succ]
 refine wpIn_seq (wpIn_seq (qcP ?_))
 refine qat (v:=(.slice A xs.length cap)) (W':=w) rfl rfl (by intro c h;cases h) (qde (.inl rfl) ((qaB _ _).trans rfl)) ?_
 simp only [List.set_cons_zero,List.set_cons_succ]
 cases A with
 |none=>
  have hc0:=hAn rfl
  subst hc0
  have hx0:xs= [] :=List.eq_nil_of_length_eq_zero (by omega)
  subst hx0
  refine qat (v:= .bool true) (W':=w) rfl rfl (by intro c h;cases h) (qA1 rfl ((qaB _ _).trans rfl) (ql9 _ _) Tryz.underlying40) ?_
  simp only [List.set_cons_zero,List.set_cons_succ]
  refine wpIn_cond_true (by rw [qaB];rfl) (wpIn_seq (qcP ?_))
  refine qat (v:= .slice none 0 0) (W':=w) rfl rfl (by intro c h;cases h) (qde (.inr rfl) (ql9 _ _)) ?_
  simp only [List.set_cons_zero,List.set_cons_succ]
  refine wpIn_ret ?_
  show LeavesInM _ _ _ Tryz.f348 _ _ _ _ _
  refine qew (v:= .slice none 0 0) (by simp [results,Tryz.f348,stA]) ⟨.slice none 0 0, [],rfl,⟨rfl,.inl ⟨rfl,rfl⟩⟩,qaO.nil _ _,by simp,bel0⟩
 |some ad=>
  obtain ⟨ti,z,hi,hz,hsz,hby,hzs⟩:=qhk (P:=Tryz.prog) (e:=25) (size:=6) (bytes:=80) (by kernel_rfl)
  refine qat (v:= .bool false) (W':=w) rfl rfl (by intro c h;cases h) ((qhu (t:=40) rfl Tryz.underlying40 ((qaB _ _).trans rfl) (ql9 _ _)).1 rfl) ?_
  simp only [List.set_cons_zero,List.set_cons_succ]
  refine wpIn_cond_false (by rw [qaB];rfl) (wpIn_skip ?_)
  refine wpIn_seq (qcP ?_)
  obtain ⟨w1,hw1⟩: ∃w1,w1=w.alloc (.cells #[] 25):=⟨_,rfl⟩
  have hbs: ∀{o:Oper} {ev:Operand->Value},o.op= .buildSlice 40 0 #[] ->(execOp ev o).run Tryz.prog w= .ok (.value (.slice (some ⟨w.heap.size,0,none⟩) 0 0)) w1:=fun h=>by rw [hw1];exact qCO h Tryz.underlying40 hi
  have hown:w1.ownsRow w.heap.size 25 6 (.slice (some ⟨w.heap.size,0,none⟩) 0 0) 0 [] :=⟨rfl,.inr ⟨w.heap.size,0, #[],rfl,Nat.le_refl _,by rw [hw1];exact heap_alloc_new w _,Nat.le_refl _,by simp [maxLen],rfl,rfl⟩⟩
  have hsz1:w.heap.size<=w1.heap.size:=by rw [hw1];simp
  have hold: ∀k,k<w.heap.size->w1.heap[k]? =w.heap[k]? :=fun k hk=>by
   rw [hw1]
   first|exact heap_alloc_old w _ k hk|exact heap_alloc_old w k hk|exact heap_alloc_old w _ hk
  have hfy:=qbk hu
  obtain ⟨vs,hvs,hcells,hd2,h12⟩: ∃vs:List Value,vs.length=xs.length*6/\(∀j u,vs[j]? =some u->w1.cell? (ad.add j)=some u)/\qaO w ok (flat xs) vs/\ ∀(i:Nat) (u:Value),vs[i]? =some u->u.oneCell'=true:=by
   by_cases hne:flat xs= []
   ·refine ⟨[], ?_,by simp,by rw [hne];exact qaO.nil _ _,by simp⟩
    rw [<-hfy,hne];rfl
   ·obtain ⟨b,off,vs,hA,hvn,_,hc,hd2,h12⟩:=hrow hne
    simp at hA;subst hA
    refine ⟨vs,by rw [hd2.1,hfy],fun j u hu=> ?_,hd2,h12⟩
    rw [qbw]
    have h1:=hc j u hu
    have hb:b<w.heap.size:=by
     unfold World.cell? at h1
     cases hq:w.heap[b]? with
     |none=>simp [hq] at h1
     |some q=>exact (Array.getElem?_eq_some_iff.1 hq).1
    unfold World.cell? at h1 ⊢
    simp only at h1 ⊢
    rw [hold b hb];exact h1
  obtain ⟨v',w2,hr,g1,g2,_,g4⟩:=run_append_own_at (P:=Tryz.prog) w1 w.heap.size 40 40 25 ti z 6 80 Tryz.underlying40 hi hz hsz hby hzs (by omega) (.slice (some ⟨w.heap.size,0,none⟩) 0 0) 0 [] hown ad xs.length cap vs hvs hcells
   (fun u hu=>by obtain ⟨j,hj⟩:=List.getElem?_of_mem hu;exact h12 j u hj) (by simp only [maxLen];omega) (by omega) hsz1
  refine qat (v:=(.slice (some ⟨w.heap.size,0,none⟩) 0 0)) (W':=w1) rfl rfl (by intro c h;cases h) (hbs rfl) ?_
  simp only [List.set_cons_zero,List.set_cons_succ]
  refine qat (v:=(.slice (some ad) xs.length cap)) (W':=w1) rfl rfl (by intro c h;cases h) (qde (.inl rfl) ((qaB _ _).trans rfl)) ?_
  simp only [List.set_cons_zero,List.set_cons_succ]
  refine qat (v:=v') (W':=w2) rfl rfl (by intro c h;cases h) (qp7 rfl ((qaB _ _).trans rfl) ((qaB _ _).trans rfl) hr) ?_
  simp only [List.set_cons_zero,List.set_cons_succ]
  refine qat (v:=v') (W':=w2) rfl rfl (by intro c h;cases h) (qde (.inr rfl) ((qaB _ _).trans rfl)) ?_
  simp only [List.set_cons_zero,List.set_cons_succ]
  refine wpIn_ret ?_
  rw [Nat.zero_add,List.nil_append] at g1
  have hkeep: ∀k,k<w.heap.size->w2.heap[k]? =w.heap[k]? :=fun k hk=>by
   rw [g2.block k (by omega) (by simp [Value.ownBlock];omega),hold k hk]
  refine qew (v:=v') (by simp [results,Tryz.f348,stA]) ⟨v',vs,rfl,g1, ?_,h12, ?_⟩
  ·refine hd2.keep (fun b _ hb=>hkeep b hb) (fun b hok hb=>⟨.inl hok,fun e=> ?_⟩)
   rw [qcQ _ _ g1] at e
   rcases g4 with h|h
   ·rw [h] at e;simp [Value.ownBlock] at e;omega
   ·rw [h] at e;simp at e;omega
  ·exact ⟨g2.os.trans (by rw [hw1];rfl),g2.tape.trans (by rw [hw1];rfl),g2.output.trans (by rw [hw1];rfl),Nat.le_trans hsz1 g2.size,fun k hk=>hkeep k hk⟩
theorem qsn{P:Program}{g:FuncId}{args res:List D}{e:TypeId}{size:Nat}(h:qpM P g args e size res)(hu:Uni size res)(hs:0<size):Fun P g args [.l res] :=by
 refine ⟨h.1,fun w ok us hd=>(h.2 w ok us hd).mono fun r w' hr=> ?_⟩
 obtain ⟨v,vs,rfl,hown,hden,h1,hb⟩:=hr
 refine ⟨v,rfl, ?_,hb⟩
 show Den w' _ (.l res) v
 have hfl:=qbk hu
 rcases hown.2 with ⟨rfl,hn⟩|⟨b,cap,cur,rfl,hbase,hheap,hcap,hcm,hcs,htk⟩
 ·have:res= [] :=List.eq_nil_of_length_eq_zero hn
  subst this
  exact .l0 (by simp [maxLen]) fun _=>rfl
 ·by_cases hz:res= []
  ·subst hz
   exact .l0 hcm fun h=>by simp at h
  ·have hlen:0<res.length:=List.length_pos_iff.2 hz
   have hvl:vs.length=res.length*size:=hown.1
   have hpos:0<res.length*size:=Nat.mul_pos hlen hs
   refine .l (us:=vs) (off:=0) (fun h=>by rw [h] at hvl;simp at hvl;omega) (by rw [hvl,hfl]) (.inr hbase) (fun i u hi=> ?_) (fun i c u hc hu'=> ?_) h1 hcap hcm
   ·have:=hown.cells (g:=b) rfl i u hi
    rw [qbw] at this;exact this
   ·exact (hden.2 i c u hc hu').keep (fun _ _ _=>rfl) fun b hb' _=>hb'.1
theorem qif{P:Program}{st:St}{K:St->Prop}{dst:Option Tmp}{g:FuncId}{y:Operand}{d:D}{res:List D}{e:TypeId}{size bytes:Nat}(hy:evx st.env y= .d d)(hf:qpM P g [.v (.slice none 0 0),d] e size res)
  (hk:K ⟨qdZ st.env dst (.own (qck st.t) 0),qaY st.t (qck st.t) (.row 0 e size bytes res)⟩):qbJ P (.func g) [.const (.slice none 0 0),y] dst st K:=by
 unfold qbJ
 rintro o ⟨ts,hop⟩ rfl
 rw [qbe] at hy
 rw [qbq,qbS,qaT] at hk
 have hkp:=hk
 intro n old bs w0 a W ι Kw Q h hK
 refine ⟨fun f _=>FW.fn w0.r f, ?_⟩
 rw [Oper.semAt_eq _ _ _ (by rw [hop];simp)]
 have hyv:=h.ev y
 rw [hy] at hyv
 have hden:qaO W (okT bs (tat st.t) ι) [.v (.slice none 0 0),d] [.slice none 0 0,a.eval y] := .cons (.v rfl) (.cons (by cases hyv with|d h=>exact h) (.nil _ _))
 have hrun:(execOp a.eval o).run P W= .ok (.enter g #[.slice none 0 0,a.eval y]) W:=by
  obtain ⟨fn,h1,h2,h3⟩:=hf.1
  obtain ⟨c,h2⟩:=Option.isSome_iff_exists.1 h2
  have e0:a.eval (.func g)= .func (.func g) #[] #[] :=rfl
  have e1:a.eval (.const (.slice none 0 0))= .slice none 0 0:=rfl
  simp [execOp,hop,resolve,e0,e1,Deferred.ofValue,invoke,callFunc,h1,h2,h3]
  simp_all
 rw [hrun]
 refine ⟨by simp [FW,Fence.wide], ?_⟩
 refine CallsIn.mono (FW.calls (hf.2 W _ _ hden)) fun e' W' he=> ?_
 obtain ⟨v,vs,rfl,hown,hd,h1,hbel⟩:=he
 refine ?_
 have hbo:=qcQ _ _ hown
 have hst:qaw old bs W ι (tat st.t) W' (at_ ι st.t.length v) (at_ (tat st.t) st.t.length (.row 0 e size bytes res)):=by
  refine h.tok.upd h.oldIn st.t.length _ _ (row:=none) (qaK hbel) (by simp) (fun b _ hb=> .inl ?_) (by intro c hc;rw [qb0] at hc;simp [B.ver] at hc) fun hkeep hok hv=> ?_
  ·exact (hown.lt b (by rw [<-hbo];exact hb)).1
  ·refine ⟨vs, ?_, ?_,h1,fun b hb ho=> ?_⟩
   ·rw [qam]
    exact ⟨hown.1,hown.2.imp id fun ⟨g',cap',cur,q1,q2,q3⟩=>⟨g',cap',cur,q1,Nat.zero_le _,q3⟩⟩
   ·refine hd.keep (fun _ _ _=>rfl) fun b hb _=>⟨hb.1.elim (fun h=>h.1) (fun h2=>(qdR h.tok h.oldIn h2).1),fun j hj hbj=> ?_⟩
    by_cases ej:j=st.t.length
    ·subst ej;rw [qam] at hbj;exact hb.2 hbj
    ·rw [qa6 _ _ ej] at hj hbj
     rcases hb.1 with h2|h2
     ·exact h2.2 j hj hbj
     ·exact (qdR h.tok h.oldIn h2).2 j hj hbj
   ·rw [qam] at hb
    have:=(hown.lt b (by rw [<-hbo];exact hb)).1
    have:=h.oldIn b ho
    omega
 refine hK _ _ _ (at_ ι st.t.length v) hkp (h.put (t:=qaG st.t st.t.length _) (by rw [qaC];exact hst) ?_)
 rw [qaC]
 exact .own (qaP (by simp [qap,qam,B.ver])) fun _=>by rw [qam]
end Go.Nv
end
