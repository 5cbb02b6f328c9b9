import Derived.Laws.StructEq
import Derived.Test.YtlmmifgminkdkaaGreatNxN3
set_option linter.all false
set_option maxRecDepth 100000
section
namespace Go.Nv
open Go.RowKit
structure TI where
 cells:Nat
 bytes:Nat
 agg:Bool
 str:Bool
 boo:Bool
 ik:Option IntKind
 elem:Option TypeId
 fields:List (Nat×TypeId)
 zero:Option (List D)
 plcs:Option (List (Nat×Nat))
 eok:Bool
 eqk:Option (List Nat)
 arr:Option (Nat×TypeId)
structure qr3 (P:Program) (t:TypeId) (i:TI):Prop where
 und:(P.underlying t).isSome=true
 cells:P.cellsOf t=i.cells
 bytes:P.bytesOf t=i.bytes
 agg:qaD P t=i.agg
 str:i.str=true->P.underlying t=some .string
 boo:i.boo=true->P.underlying t=some .bool
 ik:i.ik=none\/qdw P t=i.ik
 elem:i.elem=none\/qbv P t=i.elem
 fields:i.fields= [] \/ ∀f,qbZ P t f=i.fields[f]?
 zero:i.zero=none\/zeroCells P t=i.zero
 plcs:i.plcs=none\/Nv.plcs P t=i.plcs
 eok:i.eok=true->qd8 P t i.cells i.bytes
 eqk: ∀ks,i.eqk=some ks->StructEq P t ks
 arr:i.arr=none\/qoV P t=i.arr
abbrev Tb:=List (List (Option TI))
def lkO{α:Type}:List α->Nat->Option α
 | [],_=>none
 |x::_,0=>some x
 |_::xs,n+1=>lkO xs n
theorem qb7{α:Type}(xs:List α)(n:Nat):lkO xs n=xs[n]? :=by
 induction xs generalizing n with
 |nil=>simp [lkO]
 |cons x xs ih=>cases n with
  |zero=>simp [lkO]
  |succ n=>simp [lkO,ih]
def qhO(T:Tb)(t:TypeId):Option TI:=
 match lkO T (t/16) with
 |some l=>match lkO l (t%16) with|some i=>i|none=>none
 |none=>none
def qcG(P:Program)(T:Tb):Prop:= ∀t i,qhO T t=some i->qr3 P t i
@[irreducible] noncomputable def bz(b:Bool):Bool:= @ite _ (b=true) (Classical.propDecidable (b=true)) true false
theorem qaH(b:Bool):bz b=b:=by unfold bz;cases b<;>simp
def qoU:Bool->Bool
 |true=>false
 |false=>true
theorem qdQ(b:Bool):qoU b= !b:=by cases b<;>rfl
def ikc:IntKind->Nat
 | .i8=>0| .i16=>1| .i32=>2| .i64=>3| .u8=>4| .u16=>5| .u32=>6| .u64=>7
theorem qc7{a b:IntKind}(h:Nat.beq (ikc a) (ikc b)=true):a=b:=by
 cases a<;>cases b<;>first|rfl|(exact absurd h (by decide))
inductive Out where
 |fail
 |val (s:S) (u:Option (Nat×B))
 |side (b:Bool) (s:S) (u:Option (Nat×B))
 |idx (cells:Nat) (e:TypeId) (xs:List D) (n:Int)
 |rld (ty:TypeId) (agg:Bool) (cells size:Nat) (xs:List D) (off:Nat)
 |rst (cells:Nat) (k v:Nat) (e:TypeId) (size bytes:Nat) (xs:List D) (off:Nat) (d:D)
 |pick (z:Bool) (a b:S)
 |boo (b:Bool)
def mkI(k:IntKind)(n:Int):Out:=
 match k with
 | .i64=> .side (decide (-9223372036854775808<=n/\n<=9223372036854775807)) (.d (.v (.int .i64 n))) none
 | .i32=> .side (decide (-2147483648<=n/\n<=2147483647)) (.d (.v (.int .i32 n))) none
 | .i16=> .side (decide (-32768<=n/\n<=32767)) (.d (.v (.int .i16 n))) none
 | .i8=> .side (decide (-128<=n/\n<=127)) (.d (.v (.int .i8 n))) none
 | .u8=> .val (.d (.v (.int .u8 (n%256)))) none
 | .u16=> .val (.d (.v (.int .u16 (n%65536)))) none
 | .u32=> .val (.d (.v (.int .u32 (n%4294967296)))) none
 | .u64=> .val (.d (.v (.int .u64 (n%18446744073709551616)))) none
def qsL(b:Bool):Out->Out
 | .val s u=> .side b s u
 | .side b' s u=> .side (b&&b') s u
 |_=> .fail
def vI(k:IntKind)(n:Int):Out:= .val (.d (.v (.int k n))) none
def vB(b:Bool):Out:= .boo b
def qEg(op:BinOp):Value->Value->Out
 | .int k a,.int k' b=>
  match op with
  | .shl=>qsL (decide (0<=b)) (mkI k (a*2^(min b.toNat k.bits)))
  | .shr=> .side (decide (0<=b)) (.d (.v (.int k (a.fdiv (2^(min b.toNat k.bits)))))) none
  |op=>match Nat.beq (ikc k) (ikc k') with
   |true=>match op with
    | .add=>mkI k (a+b)
    | .sub=>mkI k (a-b)
    | .mul=>mkI k (a*b)
    | .quo=>qsL (decide (b≠0)) (mkI k (a.tdiv b))
    | .rem=> .side (decide (b≠0)) (.d (.v (.int k (a.tmod b)))) none
    | .and=>vI k (k.wrap (BitVec.ofInt k.bits a&&&BitVec.ofInt k.bits b).toNat)
    | .or=>vI k (k.wrap (BitVec.ofInt k.bits a|||BitVec.ofInt k.bits b).toNat)
    | .xor=>vI k (k.wrap (BitVec.ofInt k.bits a^^^BitVec.ofInt k.bits b).toNat)
    | .andNot=>vI k (k.wrap (BitVec.ofInt k.bits a&&& ~~~BitVec.ofInt k.bits b).toNat)
    | .eql=>vB (a==b)
    | .neq=>vB (a !=b)
    | .lss=>vB (decide (a<b))
    | .leq=>vB (decide (a<=b))
    | .gtr=>vB (decide (a>b))
    | .geq=>vB (decide (a>=b))
    |_=> .fail
   |false=> .fail
 | .string a,.string b=>
  match op with
  | .add=> .side (decide (a.size+b.size<=9223372036854775807)) (.d (.v (.string (a++b)))) none
  | .eql=>vB (a==b)
  | .neq=>vB (!(a==b))
  | .lss=>vB (Op.bytesLess a.toList b.toList)
  | .gtr=>vB (!(Op.bytesLess a.toList b.toList||a==b))
  |_=> .fail
 |_,_=> .fail
@[irreducible] def qEG(n:Int):Int:=IntKind.i64.wrap n
def qvS:BinOp->Operand->Bool
 | .mul,.const (.int .i64 (.ofNat n))=>Nat.beq n 2
 |_,_=>false
theorem qrk{op:BinOp}{x:Operand}(h:qvS op x=true):op= .mul:=by
 unfold qvS at h;split at h
 ·rfl
 ·cases h
def qEE:Value->Value->Out
 | .int .i64 a,.int .i64 b=> .val (.d (.v (.int .i64 (qEG (a*b))))) none
 |_,_=> .fail
def qck{α:Type}:List α->Nat
 | [] =>0
 |_::xs=>qck xs+1
theorem qaT{α:Type}(xs:List α):qck xs=xs.length:=by induction xs<;>simp [qck, *]
def qh8{α:Type}:List α->Bool
 | [] =>true
 |_=>false
theorem qkN{α:Type}(xs:List α):qh8 xs=xs.isEmpty:=by cases xs<;>rfl
def qtw:List Nat->List Nat->Bool
 | [], [] =>true
 |x::xs,y::ys=>match Nat.beq x y with|true=>qtw xs ys|false=>false
 |_,_=>false
theorem qi9: ∀{xs ys:List Nat},qtw xs ys=true->xs=ys
 | [], [],_=>rfl
 |x::xs,y::ys,h=>by
  unfold qtw at h
  split at h
  ·rename_i h1;rw [Nat.eq_of_beq_eq_true h1,qi9 h]
  ·simp at h
 | [],_::_,h=>by simp [qtw] at h
 |_::_, [],h=>by simp [qtw] at h
def qhc(size:Nat):List D->Bool
 | [] =>true
 |x::xs=>match Nat.beq (qck x.cells) size with|true=>qhc size xs|false=>false
theorem qbL{size:Nat}: ∀{xs:List D},qhc size xs=true↔Uni size xs
 | [] =>by simp [qhc,Uni]
 |x::xs=>by
  unfold qhc
  constructor
  ·intro h
   split at h
   ·rename_i h1
    have h1:=Nat.eq_of_beq_eq_true h1
    have:=(qbL (xs:=xs)).1 h
    intro y hy
    rcases List.mem_cons.1 hy with rfl|hy
    ·rw [<-h1,qaT]
    ·exact this y hy
   ·simp at h
  ·intro h
   have h1:x.cells.length=size:=h x (by simp)
   rw [qaT,h1]
   have:Nat.beq size size=true:=Nat.beq_refl size
   rw [this]
   exact (qbL (xs:=xs)).2 fun y hy=>h y (by simp [hy])
def qoB(agg:Bool)(cells:Nat)(cs:List D)(off:Nat):Option D:=
 match agg with
 |true=>match Nat.ble (off+cells) (qck cs) with|true=>some (.a ((cs.drop off).take cells))|false=>none
 |false=>lkO cs off
def qoD(i:TI)(cs:List D)(off:Nat):Option D:=qoB i.agg i.cells cs off
def qiR(i:TI)(cs:List S)(off:Nat):Option S:=
 match i.agg with
 |true=>match Nat.ble (off+i.cells) (qck cs) with|true=>some (qnS ((cs.drop off).take i.cells))|false=>none
 |false=>lkO cs off
section
variable {P:Program} {t:TypeId} {i:TI}
theorem qmE{agg:Bool}{n:Nat}(h1:qaD P t=agg)(h2:P.cellsOf t=n)(cs:List D)(off:Nat):qoB agg n cs off=qdf P t cs off:=by
 unfold qoB qdf
 rw [h1,h2]
 cases agg with
 |true=>
  simp only [if_true,qaT]
  cases h:Nat.ble (off+n) cs.length with
  |true=>rw [if_pos (Nat.le_of_ble_eq_true h)]
  |false=>rw [if_neg (fun h'=>by rw [Nat.ble_eq_true_of_le h'] at h;simp at h)]
 |false=>simp [qb7]
theorem qfA(hi:qr3 P t i)(cs:List D)(off:Nat):qoD i cs off=qdf P t cs off:=qmE hi.agg hi.cells cs off
theorem qfy(hi:qr3 P t i)(cs:List S)(off:Nat):qiR i cs off=qfN P t cs off:=by
 unfold qiR qfN
 rw [hi.agg,hi.cells]
 cases i.agg with
 |true=>
  simp only [if_true,qaT]
  cases h:Nat.ble (off+i.cells) cs.length with
  |true=>rw [if_pos (Nat.le_of_ble_eq_true h)]
  |false=>rw [if_neg (fun h'=>by rw [Nat.ble_eq_true_of_le h'] at h;simp at h)]
 |false=>simp [qb7]
end
def qvk(τ:Nat->B)(k ver:Nat):Bool:=
 match τ k with
 | .box .. =>Nat.beq ver 0
 | .row v .. =>Nat.beq ver v
 | .loop .. =>Nat.beq ver 0
 |_=>false
theorem qha{τ:Nat->B}{k ver:Nat}:qvk τ k ver=true↔qap τ k=some (some ver):=by
 unfold qvk qap
 cases τ k with
 |box t cs=>rw [Nat.beq_eq];exact ⟨fun h=>by rw [h];rfl,fun h=>by simpa [B.ver] using h.symm⟩
 |row v e s b xs=>rw [Nat.beq_eq];exact ⟨fun h=>by rw [h];rfl,fun h=>by simpa [B.ver] using h.symm⟩
 |dead=>simp [B.ver]
 |ghost cs=>simp [B.ver]
 |loop=>rw [Nat.beq_eq];exact ⟨fun h=>by rw [h];rfl,fun h=>by simpa [B.ver] using h.symm⟩
 |gone=>simp [B.ver]
def qyN(τ:Nat->B):S->Bool
 | .d x=>match x with| .a _=>false|_=>true
 | .ptr k n _=>qvk τ k n
 | .own k n=>qvk τ k n
 | .clo _ _=>true
 |_=>false
theorem qw1(τ:Nat->B)(s:S):qyN τ s=qlc (qap τ) s:=by
 cases s with
 |ptr k n o=>unfold qyN qlc;rw [Bool.eq_iff_iff,qha,beq_iff_eq]
 |own k n=>unfold qyN qlc;rw [Bool.eq_iff_iff,qha,beq_iff_eq]
 |_=>rfl
def qBu(f:S->Bool):List S->Bool
 | [] =>true
 |s::ss=>match f s with|true=>qBu f ss|false=>false
theorem qwh(f:S->Bool)(ss:List S):qBu f ss=ss.all f:=by
 induction ss with
 |nil=>rfl
 |cons s ss ih=>simp only [qBu,List.all_cons];cases f s<;>simp [ih]
def okX(τ:Nat->B):S->Bool
 | .d _=>true
 |s=>qBu (qyN τ) s.cells
theorem qqB(τ:Nat->B)(s:S):okX τ s=okS (qap τ) s:=by
 have:qyN τ=qlc (qap τ):=funext (qw1 τ)
 cases s<;>simp [okX,okS,qwh,this]
def neD:D->Bool
 | .a [] =>false
 |_=>true
theorem qyD{d:D}(h:neD d=true):d.cells.isEmpty=false:=by
 unfold neD at h
 split at h
 ·simp at h
 ·rename_i h'
  cases d with
  |a cs=>cases cs with
   |nil=>exact absurd rfl h'
   |cons=>rfl
  |_=>rfl
def qjp:Operand->Bool
 | .const (.slice none 0 0)=>true
 |_=>false
def cb{α:Type}(j:TI)(f:Nat->Nat->α):α:=match j with|⟨c,b,_,_,_,_,_,_,_,_,_,_,_⟩=>f c b
theorem qmh{α:Type}(j:TI)(f:Nat->Nat->α):cb j f=f j.cells j.bytes:=by cases j;rfl
def zhd(agg:Bool)(zs:List D)(K:D->Out):Out:=match agg with
 |true=>K (.a zs)
 |false=>match zs with
  |z::_=>K z
  | [] =>K (.v undef)
theorem qyV(agg:Bool)(zs:List D)(K:D->Out):zhd agg zs K=K (match agg with|true=> .a zs|false=>zs.headD (.v undef)):=by
 cases agg
 ·cases zs<;>rfl
 ·rfl
def ti(T:Tb)(t:TypeId)(f:TI->Out):Out:=match qhO T t with|some i=>f i|none=> .fail
def ch(b:Bool)(o:Out):Out:=match b with|true=>o|false=> .fail
def opv(o:Option S):Out:=match o with|some s=> .val s none|none=> .fail
def opd(o:Option D):Out:=match o with|some d=> .val (.d d) none|none=> .fail
def qBt(τ:Nat->B)(ps:List (Nat×S)):Bool:=match ps with
 | [] =>true
 |p::ps=>match okX τ p.2 with|true=>qBt τ ps|false=>false
theorem qvT(τ:Nat->B)(ps:List (Nat×S)):qBt τ ps=ps.all fun x=>okS (qap τ) x.2:=by
 induction ps with
 |nil=>rfl
 |cons p ps ih=>simp only [qBt,List.all_cons,qqB];cases okS (qap τ) p.2<;>simp [ih]
def qnH(pl:List (Nat×Nat)):List (Nat×S)->List S->Option (List S)
 | [],cs=>some cs
 |(i,s)::ps,cs=>match lkO pl i with
  |some (o,n)=>match Nat.beq (qck s.cells) n with
   |true=>match Nat.ble (o+qck s.cells) (qck cs) with
    |true=>qnH pl ps (splice cs o s.cells)
    |false=>none
   |false=>none
  |none=>none
theorem qkl(pl:List (Nat×Nat)): ∀(ps:List (Nat×S)) (cs:List S) (r:List S),qnH pl ps cs=some r->qgt pl ps cs=some r
 | [],cs,r,h=>h
 |(i,s)::ps,cs,r,h=>by
  unfold qnH at h
  unfold qgt
  rw [qb7] at h
  split at h
  ·rename_i o n hl
   rw [hl]
   split at h
   ·rename_i h1
    split at h
    ·rename_i h2
     rw [qaT] at h1 h2
     rw [qaT] at h2
     simp only
     rw [if_pos ⟨Nat.eq_of_beq_eq_true h1,Nat.le_of_ble_eq_true h2⟩]
     exact qkl pl ps _ r h
    ·simp at h
   ·simp at h
  ·simp at h
def qEH(ρ:Operand->S)(τ:Nat->B)(T:Tb)(x:Operand)(t:TypeId):Out:=
 ti T t fun i=>match ρ x with
 | .d (.l xs)=>match i.elem with|some _=> .val (.d (.v (.int .i64 xs.length))) none|none=> .fail
 | .d (.v (.string s))=>ch i.str (.val (.d (.v (.int .i64 s.size))) none)
 | .own k ver=>match τ k with
  | .row v _ _ _ xs=>ch (Nat.beq ver v) (match i.elem with|some _=> .val (.d (.v (.int .i64 xs.length))) none|none=> .fail)
  |_=> .fail
 |_=> .fail
def qEQ(ρ:Operand->S)(τ:Nat->B)(T:Tb)(s x:Operand)(t t':TypeId):Out:=
 ch (Nat.beq t t') (ti T t fun i=>match i.elem with
  |some e=>match ρ s,ρ x with
   | .own k ver,.d (.l ys)=>match τ k with
    | .row v e' size bytes xs=>ch (Nat.beq ver v) (ch (Nat.beq e e') (ti T e fun j=>ch j.eok (ch (Nat.beq size j.cells) (ch (Nat.beq bytes j.bytes) (ch (Nat.blt 0 size)
      (.side (qhc size xs&&(qhc size ys&&decide (xs.length+ys.length<=maxLen/\(xs.length+ys.length)*bytes<=140737488355328))) (.own k (v+1)) (some (k,.row (v+1) e size bytes (xs++ys)))))))))
    |_=> .fail
   |_,_=> .fail
  |none=> .fail)
def qEP(ρ:Operand->S)(τ:Nat->B)(T:Tb)(x y:Operand)(t:TypeId):Out:=
 ti T t fun i=>match i.elem with
  |some e=>match ρ x,ρ y with
   | .own k ver,.d (.l ys)=>match τ k with
    | .row v e' size bytes xs=>ch (Nat.beq ver v) (ch (Nat.beq e e') (ti T e fun j=>ch j.eok (ch (Nat.beq size j.cells) (ch (Nat.beq bytes j.bytes) (ch (Nat.blt 0 size)
      (.side (qhc size xs&&(qhc size ys&&decide (xs.length=ys.length))) (.d (.v (.int .i64 ys.length))) (some (k,.row v e size bytes ys))))))))
    |_=> .fail
   |_,_=> .fail
  |none=> .fail
def qrE(ρ:Operand->S):Option Operand->Int->Option Int
 |none,n=>some n
 |some x,_=>match ρ x with| .d (.v (.int _ n))=>some n|_=>none
def qgx:List D->Bool
 | [] =>true
 |x::xs=>match x with
  | .v (.int .u8 _)=>qgx xs
  |_=>false
theorem qcM: ∀{xs:List D},qgx xs=true↔qiY xs
 | [] =>by simp [qgx,qiY]
 |x::xs=>by
  unfold qgx
  constructor
  ·intro h
   split at h
   ·rename_i n
    have:=(qcM (xs:=xs)).1 h
    intro y hy
    rcases List.mem_cons.1 hy with rfl|hy
    ·exact ⟨n,rfl⟩
    ·exact this y hy
   ·simp at h
  ·intro h
   obtain ⟨n,rfl⟩:=h x (by simp)
   exact (qcM (xs:=xs)).2 fun y hy=>h y (by simp [hy])
def qBr:List D->Bool
 | [] =>true
 |x::xs=>match x with
  | .a _=>false
  |_=>qBr xs
theorem qqH: ∀{xs:List D},qBr xs=true-> ∀x∈xs,x.cells= [x]
 | [],_,x,hx=>by simp at hx
 |y::ys,h,x,hx=>by
  unfold qBr at h
  split at h
  ·simp at h
  ·rename_i hne
   rcases List.mem_cons.1 hx with rfl|hx
   ·cases x with
    |a cs=>exact absurd rfl (hne cs)
    |_=>rfl
   ·exact qqH h x hx
def qyF(T:Tb)(ρ:Operand->S)(τ:Nat->B)(src dst:TypeId)(x:Operand):Out:=
 match ρ x with
 | .d (.v (.int _ n))=>ti T src fun _=>ti T dst fun j=>match j.ik with
  |some k=>mkI k n
  |none=> .fail
 | .d (.v (.string s))=>ti T src fun l=>ch l.str (ti T dst fun i=>match i.elem with
  |some e=>ti T e fun j=>match j.ik with
   |some .u8=> .side (decide (s.size<=maxLen)) (.d (.l (strD s))) none
   |_=> .fail
  |none=> .fail)
 | .d (.l xs)=>ti T src fun i=>match i.elem with
  |some e=>ti T e fun j=>match j.ik with
   |some .u8=>ti T dst fun l=>ch l.str (.side (qgx xs) (.d (.v (.string (qf9 xs)))) none)
   |_=> .fail
  |none=> .fail
 | .own k ver=>match τ k with
  | .row v _ size _ xs=>ti T src fun i=>match i.elem with
   |some e=>ti T e fun j=>match j.ik with
    |some .u8=>ti T dst fun l=>ch l.str (ch (Nat.beq ver v) (ch (Nat.beq size 1) (.side (qgx xs) (.d (.v (.string (qf9 xs)))) none)))
    |_=> .fail
   |none=> .fail
  |_=> .fail
 |_=> .fail
def qAU(T:Tb)(ρ:Operand->S)(τ:Nat->B)(len:Nat)(e:TypeId)(x i:Operand):Out:=
 ti T e fun je=>ch (Nat.blt 0 je.cells) (match ρ i with
  | .d (.v (.int _ n))=>match ρ x with
   | .ptr k ver off=>ch (qvk τ k ver) (cb je fun c _=> .side (decide (0<=n/\n<len)) (.ptr k ver (off+n.toNat*c)) none)
   | .d (.p off cs)=>cb je fun c _=> .side (decide (0<=n/\n<len)) (.d (.p (off+n.toNat*c) cs)) none
   |_=> .fail
  |_=> .fail)
def qEV(T:Tb)(ρ:Operand->S)(τ:Nat->B)(len:Nat)(e:TypeId)(x:Operand)(lo hi:Option Operand):Out:=
 ti T e fun je=>ch (Nat.beq je.cells 1) (match ρ x with
  | .ptr k ver 0=>match τ k with
   | .box _ cs=>match qdV cs with
    |some ds=>ch (Nat.beq ver 0) (ch (Nat.beq (qck ds) len) (ch (qBr ds) (ch (Nat.blt 0 len) (match qrE ρ lo 0,qrE ρ hi len with
     |some l,some h=> .side (decide (0<=l/\l<=h/\h<=len/\len<=maxLen)) (.d (.l (qcr ds l.toNat h.toNat))) (some (k,.dead))
     |_,_=> .fail))))
    |none=> .fail
   |_=> .fail
  |_=> .fail)
def qE8(k0:Nat)(e:TypeId)(τ:Nat->B):Bool->S->Out
 |false,.d y=>ch (neD y) (.val (.d (.p 0 y.cells)) none)
 |_,s=>ch (qoU (qh8 s.cells)) (ch (okX τ s) (.val (.ptr k0 0 0) (some (k0,.box e s.cells))))
def opX(T:Tb)(k0:Nat)(mu:Bool)(ρ:Operand->S)(τ:Nat->B)(ty:TypeId):Op->Out
 | .move x=> .val (ρ x) none
 | .assign x=>match qjp x with
  |true=>ti T ty fun i=>match i.elem with
   |some e=>ti T e fun j=>cb j fun c b=> .val (.own k0 0) (some (k0,.row 0 e c b []))
   |none=> .fail
  |false=> .val (ρ x) none
 | .pick c a b=>match ρ c with| .d (.v (.bool z))=> .pick z (ρ a) (ρ b)|_=> .fail
 | .alloc e=>ti T e fun i=>match i.zero with
  |some (z::zs)=> .val (.ptr k0 0 0) (some (k0,.box e ((z::zs).map .d)))
  |_=> .fail
 | .box e x=>qE8 k0 e τ mu (ρ x)
 | .build t ps=>ti T t fun i=>match i.plcs,i.zero with
  |some pl,some zs=>ch (qBt τ (ps.toList.map fun x=>(x.1,ρ x.2))) (match qnH pl (ps.toList.map fun x=>(x.1,ρ x.2)) (zs.map .d) with
   |some cs=> .val (qnS cs) none
   |none=> .fail)
  |_,_=> .fail
 | .load ty' x=>ti T ty' fun i=>match ρ x with
  | .d (.p off cs)=>opd (qoD i cs off)
  | .ptr k ver off=>match τ k with
   | .box _ cs=>ch (Nat.beq ver 0) (opv (qiR i cs off))
   | .row v e size _ xs=>ch (Nat.beq ver v) (.rld ty' i.agg i.cells size xs off)
   |_=> .fail
  |_=> .fail
 | .store ty' x y=>ti T ty' fun i=>match ρ x with
  | .ptr k ver off=>match τ k with
   | .box bt cs=>ch (Nat.beq ver 0) (ch (Nat.ble (off+qck (ρ y).cells) (qck cs)) (ch (Nat.beq (qck (ρ y).cells) i.cells) (ch (okX τ (ρ y))
     (.val .top (some (k,.box bt (splice cs off (ρ y).cells)))))))
   | .row v e size bytes xs=>match ρ y with
    | .d d=>ch (Nat.beq ver v) (.rst i.cells k v e size bytes xs off d)
    |_=> .fail
   |_=> .fail
  |_=> .fail
 | .fieldAddr s x f=>ti T s fun i=>match lkO i.fields f with
  |some (o,ft)=>ti T ft fun j=>ch (Nat.blt 0 j.cells) (match ρ x with
   | .d (.p off cs)=> .val (.d (.p (off+o) cs)) none
   | .ptr k ver off=>ch (qvk τ k ver) (.val (.ptr k ver (off+o)) none)
   |_=> .fail)
  |none=> .fail
 | .field s x f=>ti T s fun i=>match lkO i.fields f with
  |some (o,ft)=>ti T ft fun j=>match ρ x with
   | .d (.a cs)=>opd (qoD j cs o)
   | .agg cs=>opv (qiR j cs o)
   |_=> .fail
  |none=> .fail
 | .extract x i=>match ρ x with| .tup xs=>opv (lkO xs i)|_=> .fail
 | .binOp op xt x y _=>match ρ x with
  | .d (.v a)=>match ρ y with
   | .d (.v b)=>match a with
    | .bool p=>match b with
     | .bool q=>ti T xt fun i=>ch i.boo (match op with
      | .eql=>vB (p==q)
      | .neq=>vB (!(p==q))
      |_=> .fail)
     |_=> .fail
    |_=>match qvS op x with
     |true=>qEE a b
     |false=>qEg op a b
   |_=> .fail
  | .d (.a as)=>match ρ y with
   | .d (.a bs)=>ti T xt fun i=>match i.eqk with
    |some ks=>ch (qtw (as.map kdD) ks) (ch (qtw (bs.map kdD) ks) (match op with
     | .eql=>vB (qdH as bs)
     | .neq=>vB (!qdH as bs)
     |_=> .fail))
    |none=> .fail
   |_=> .fail
  | .d (.l ds)=>match ρ y with
   | .d (.v (.slice none 0 0))=>ti T xt fun i=>match i.elem with
    |some _=>match op with
     | .eql=> .side (qoU (qh8 ds)) (.d (.v (.bool false))) none
     | .neq=> .side (qoU (qh8 ds)) (.d (.v (.bool true))) none
     |_=> .fail
    |none=> .fail
   |_=> .fail
  |_=> .fail
 | .unOp op _ x=>match ρ x with
  | .d (.v a)=>match op,a with
   | .not,.bool b=> .val (.d (.v (.bool (qoU b)))) none
   | .neg,.int k n=>mkI k (0-n)
   | .xor,.int k n=>vI k (k.wrap (BitVec.ofInt k.bits (if k.signed then-1 else k.max)^^^BitVec.ofInt k.bits n).toNat)
   |_,_=> .fail
  |_=> .fail
 | .nilCheck x=>match ρ x with
  | .d (.p off cs)=> .val (.d (.p off cs)) none
  | .ptr k ver off=>ch (qvk τ k ver) (.val (.ptr k ver off) none)
  | .d (.f g cap)=> .val (.d (.f g cap)) none
  |_=> .fail
 | .index xt x i=>match ρ x,ρ i with
  | .d (.v (.string s)),.d (.v (.int _ n))=>ti T xt fun j=>ch j.str (.side (decide (0<=n/\n<s.size)) (.d (.v (.int .u8 (bt s n)))) none)
  | .d (.a cs),.d (.v (.int _ n))=>ti T xt fun j=>match j.arr with
   |some (len,e)=>ti T e fun je=>ch (Nat.blt 0 je.cells) (match qoD je cs (n.toNat*je.cells) with
    |some d=> .side (decide (0<=n/\n<len)) (.d d) none
    |none=> .fail)
   |none=> .fail
  |_,_=> .fail
 | .indexAddr xt x i=>ti T xt fun j=>match j.elem with
  |some e=>ti T e fun je=>ch (Nat.blt 0 je.cells) (match ρ x,ρ i with
   | .d (.l xs),.d (.v (.int _ n))=>cb je fun c _=> .idx c e xs n
   | .own k ver,.d (.v (.int _ n))=>match τ k with
    | .row v e' size _ xs=>ch (Nat.beq ver v) (ch (Nat.beq size je.cells) (.side (decide (0<=n/\n<xs.length)&&qhc size xs) (.ptr k ver (n.toNat*size)) none))
    |_=> .fail
   |_,_=> .fail)
  |none=>match j.arr with
   |some (len,e)=>qAU T ρ τ len e x i
   |none=> .fail
 | .makeFunc (.func g) first cap=>ch (qh8 first.toList) (.val (match qdV (cap.toList.map ρ) with|some ds=> .d (.f g ds)|none=> .clo g (cap.toList.map ρ)) none)
 | .call {callee:= .builtin .len,args,argTypes}=>match args.toList,argTypes.toList with
  | [x], [t] =>qEH ρ τ T x t
  |_,_=> .fail
 | .call {callee:= .builtin .append,args,argTypes}=>match args.toList,argTypes.toList with
  | [s,x], [t,t'] =>qEQ ρ τ T s x t t'
  |_,_=> .fail
 | .call {callee:= .builtin .copy,args,argTypes}=>match args.toList,argTypes.toList with
  | [x,y], [t,t'] =>qEP ρ τ T x y t
  |_,_=> .fail
 | .call {callee:= .builtin .max,args,.. }=>match args.toList with
  | [x,y] =>match ρ x,ρ y with
   | .d (.v (.int k a)),.d (.v (.int k' b))=>ch (Nat.beq (ikc k) (ikc k')) (.val (.d (.v (.int k (if a<b then b else a)))) none)
   |_,_=> .fail
  | [x,y,z] =>match ρ x,ρ y,ρ z with
   | .d (.v (.int k a)),.d (.v (.int k1 b)),.d (.v (.int k2 c))=>ch (Nat.beq (ikc k) (ikc k1)) (ch (Nat.beq (ikc k) (ikc k2)) (.val (.d (.v (.int k (mx3 a b c)))) none))
   |_,_,_=> .fail
  | [x,y,z,u] =>match ρ x,ρ y,ρ z,ρ u with
   | .d (.v (.int k a)),.d (.v (.int k1 b)),.d (.v (.int k2 c)),.d (.v (.int k3 f))=>ch (Nat.beq (ikc k) (ikc k1)) (ch (Nat.beq (ikc k) (ikc k2)) (ch (Nat.beq (ikc k) (ikc k3)) (.val (.d (.v (.int k (mx4 a b c f)))) none)))
   |_,_,_,_=> .fail
  |_=> .fail
 | .call {callee:= .builtin .min,args,.. }=>match args.toList with
  | [x,y] =>match ρ x,ρ y with
   | .d (.v (.int k a)),.d (.v (.int k' b))=>ch (Nat.beq (ikc k) (ikc k')) (.val (.d (.v (.int k (if b<a then b else a)))) none)
   |_,_=> .fail
  |_=> .fail
 | .buildSlice t n parts=>ti T t fun i=>match i.elem with
  |some e=>ti T e fun j=>ch j.eok (ch (Nat.blt 0 j.cells) (ch (qtw (parts.toList.map (·.1)) (List.range n)) (ch (Nat.ble (n*j.cells) 16777216)
    (match qdV ((parts.toList.map (·.2)).map ρ) with
    |some ds=>ch (qhc j.cells ds) (match mu with
     |true=>cb j fun c b=> .val (.own k0 0) (some (k0,.row 0 e c b ds))
     |false=> .val (.d (.l ds)) none)
    |none=> .fail))))
  |none=> .fail
 | .makeSlice t l c=>ti T t fun i=>match i.elem with
  |some e=>ti T e fun j=>ch j.eok (ch (Nat.blt 0 j.cells) (match j.zero with
   |some zs=>match ρ l,ρ c with
    | .d (.v (.int _ n)),.d (.v (.int _ m))=>ch (match j.agg with|true=>true|false=>Nat.beq (qck zs) 1)
      (cb j fun c b=>zhd j.agg zs fun z=> .side (decide (0<=n/\n<=m/\m<=maxLen/\(b:Int)*m<=281474976710656)) (.own k0 0)
       (some (k0,.row 0 e c b (List.replicate n.toNat z))))
    |_,_=> .fail
   |none=> .fail))
  |none=> .fail
 | .slice xt x lo hi none=>ti T xt fun i=>match ρ x with
  | .d (.v (.string s))=>ch i.str (match qrE ρ lo 0,qrE ρ hi s.size with
   |some l,some h=> .side (decide (0<=l/\l<=h/\h<=s.size)) (.d (.v (.string (s.extract l.toNat h.toNat)))) none
   |_,_=> .fail)
  | .d (.l xs)=>match i.elem with
   |some e=>ti T e fun j=>ch (Nat.blt 0 j.cells) (match qrE ρ lo 0,qrE ρ hi xs.length with
    |some l,some h=>cb j fun c _=> .side (decide (0<=l/\l<=h/\h<=xs.length)&&qhc c xs) (.d (.l (qcr xs l.toNat h.toNat))) none
    |_,_=> .fail)
   |none=> .fail
  | .own k ver=>match i.elem with
   |some e=>ti T e fun j=>ch (Nat.blt 0 j.cells) (match τ k with
    | .row v _ size _ xs=>ch (Nat.beq ver v) (ch (Nat.beq size j.cells) (match qrE ρ lo 0,qrE ρ hi xs.length with
     |some l,some h=> .side (decide (0<=l/\l<=h/\h<=xs.length)&&qhc size xs) (.d (.l (qcr xs l.toNat h.toNat))) (some (k,.dead))
     |_,_=> .fail))
    |_=> .fail)
   |none=> .fail
  | .ptr _ _ _=>match i.arr with
   |some (len,e)=>qEV T ρ τ len e x lo hi
   |none=> .fail
  |_=> .fail
 | .convert src dst x=>qyF T ρ τ src dst x
 |_=> .fail
end Go.Nv
end
section
namespace Go.Nv
open Go.RowKit
def ikd:IntKind->Nat
 | .i8=>3| .i16=>4| .i32=>5| .i64=>6| .u8=>7| .u16=>8| .u32=>9| .u64=>10
mutual
def qgp(P:Program):Nat->TypeId->Option (List Nat)
 |0,_=>none
 |d+1,t=>match P.underlying t with
  |some .bool=>some [1]
  |some .string=>some [2]
  |some (.int k)=>some [ikd k]
  |some (.struct fs)=>match P.stoodInHeld t with
   |true=>none
   |false=>skF P d fs.toList 0
  |_=>none
def skF(P:Program):Nat->List Field->Nat->Option (List Nat)
 |_, [],_=>some []
 |0,_::_,_=>none
 |d+1,f::fs,off=>match decide (f.name≠ "_" /\f.offset=off) with
  |true=>match qgp P d f.type with
   |some ks=>match decide (P.cellsOf f.type=ks.length) with
    |true=>match skF P d fs (off+ks.length) with
     |some rest=>some (ks++rest)
     |none=>none
    |false=>none
   |none=>none
  |false=>none
end
def qtc(P:Program)(t:TypeId)(ds:List D):Value:=if qaD P t then .agg (ds.map qjA).toArray else (ds.map qjA).getD 0 undef
theorem qhe: ∀{a c b d:List D},a.length=c.length->qdH (a++b) (c++d)=(qdH a c&&qdH b d)
 | [], [],b,d,_=>by simp [qdH]
 |x::a,y::c,b,d,h=>by simp only [List.cons_append,qdH];rw [qhe (by simpa using h)];simp [Bool.and_assoc]
 | [],_::_,b,d,h=>by simp at h
 |_::_, [],b,d,h=>by simp at h
theorem qiq{k:Nat}{ds:List D}(h:ds.map kdD= [k]): ∃x,ds= [x] /\kdD x=k:=by
 cases ds with
 |nil=>simp at h
 |cons x ds=>simp at h;obtain ⟨h1,rfl⟩:=h;exact ⟨x,rfl,h1⟩
theorem qpr{x:D}(h:kdD x=1): ∃b,x= .v (.bool b):=by
 unfold kdD at h
 split at h<;>first|exact ⟨_,rfl⟩|simp at h
theorem qk1{x:D}(h:kdD x=2): ∃b,x= .v (.string b):=by
 unfold kdD at h
 split at h<;>first|exact ⟨_,rfl⟩|simp at h
theorem quw{x:D}{k:IntKind}(h:kdD x=ikd k): ∃n,x= .v (.int k n):=by
 cases k<;>simp only [ikd] at h<;>(unfold kdD at h;split at h<;>first|exact ⟨_,rfl⟩|simp at h)
theorem qzH(k:IntKind):0<ikd k:=by cases k<;>simp [ikd]
section
variable {P:Program}
theorem qh2{t:TypeId}{fs:Array Field}(h:P.underlying t=some (.struct fs)):P.fieldsOf t=fs:=by simp [Program.fieldsOf,h]
theorem qnv(n:Nat):(∀(d:Nat) (t:TypeId) (ks:List Nat),d<=n->qgp P d t=some ks->(0∉ks/\(P.underlying t).isSome=true/\(qaD P t=false->ks.length=1))/\ ∀(D0:Nat) (ds es:List D) (w:World),n<=D0->ds.map kdD=ks->es.map kdD=ks->
   (Op.equalIn (D0+1) t (qtc P t ds) (qtc P t es)).run P w= .ok (qdH ds es) w)/\
  (∀(d:Nat) (fs:List Field) (off:Nat) (ks:List Nat),d<=n->skF P d fs off=some ks->0∉ks/\ ∀(D0:Nat) (pre pre' ds es:List D) (w:World),n<=D0->pre.length=off->pre'.length=off->ds.map kdD=ks->es.map kdD=ks->
   (Op.eqFields (D0+1) ((pre++ds).map qjA).toArray ((pre'++es).map qjA).toArray fs).run P w= .ok (qdH ds es) w):=by
 induction n with
 |zero=>
  refine ⟨fun d t ks hd h=> ?_,fun d fs off ks hd h=> ?_⟩
  ·have:d=0:=by omega
   subst this;simp [qgp] at h
  ·have:d=0:=by omega
   subst this
   cases fs with
   |nil=>
    simp [skF] at h;subst h
    refine ⟨by simp,fun D0 pre pre' ds es w _ _ _ h1 h2=> ?_⟩
    have:ds= [] :=by simpa using h1
    have h':es= [] :=by simpa using h2
    subst this;subst h'
    simp [Op.eqFields,qdH]
   |cons f fs=>simp [skF] at h
 |succ n ih=>
  obtain ⟨ih1,ih2⟩:=ih
  refine ⟨fun d t ks hd h=> ?_,fun d fs off ks hd h=> ?_⟩
  ·cases d with
   |zero=>simp [qgp] at h
   |succ d=>
    simp only [qgp] at h
    split at h
    ·rename_i hu
     simp at h;subst h
     have ha:qaD P t=false:=by simp [qaD,hu]
     refine ⟨⟨by simp,by simp [hu],fun _=>rfl⟩,fun D0 ds es w _ h1 h2=> ?_⟩
     obtain ⟨x,rfl,hx⟩:=qiq h1
     obtain ⟨y,rfl,hy⟩:=qiq h2
     obtain ⟨a,rfl⟩:=qpr hx
     obtain ⟨b,rfl⟩:=qpr hy
     simp [qtc,ha,qjA,qdH,eqD,eqV,run_equalIn_bool' w _ t a b hu]
    ·rename_i hu
     simp at h;subst h
     have ha:qaD P t=false:=by simp [qaD,hu]
     refine ⟨⟨by simp,by simp [hu],fun _=>rfl⟩,fun D0 ds es w _ h1 h2=> ?_⟩
     obtain ⟨x,rfl,hx⟩:=qiq h1
     obtain ⟨y,rfl,hy⟩:=qiq h2
     obtain ⟨a,rfl⟩:=qk1 hx
     obtain ⟨b,rfl⟩:=qk1 hy
     simp [qtc,ha,qjA,qdH,eqD,eqV,run_equalIn_string w _ t a b hu,beq_toListBytes]
    ·rename_i k hu
     simp at h;subst h
     have ha:qaD P t=false:=by simp [qaD,hu]
     refine ⟨⟨by have:=qzH k;simp;omega,by simp [hu],fun _=>rfl⟩,fun D0 ds es w _ h1 h2=> ?_⟩
     obtain ⟨x,rfl,hx⟩:=qiq h1
     obtain ⟨y,rfl,hy⟩:=qiq h2
     obtain ⟨a,rfl⟩:=quw hx
     obtain ⟨b,rfl⟩:=quw hy
     simp [qtc,ha,qjA,qdH,eqD,eqV,run_equalIn_int w _ t k k a b hu]
    ·rename_i fs hu
     split at h
     ·simp at h
     ·rename_i hs
      have ha:qaD P t=true:=by simp [qaD,hu]
      obtain ⟨h0,hk⟩:=ih2 d fs.toList 0 ks (by omega) h
      refine ⟨⟨h0,by simp [hu],fun h'=>by rw [ha] at h';simp at h'⟩,fun D0 ds es w hD h1 h2=> ?_⟩
      obtain ⟨D1,rfl⟩: ∃D1,D0=D1+1:=⟨D0-1,by omega⟩
      have:=hk D1 [] [] ds es w (by omega) rfl rfl h1 h2
      simp only [List.nil_append] at this
      simp only [qtc,ha,if_true]
      rw [run_equalIn_struct w (D1+1) t _ _ (by rw [qh2 hu];exact hu) hs,qh2 hu]
      exact this
    ·simp at h
  ·cases fs with
   |nil=>
    have h:ks= [] :=by cases d<;>simpa [skF] using h.symm
    subst h
    refine ⟨by simp,fun D0 pre pre' ds es w _ _ _ h1 h2=> ?_⟩
    have:ds= [] :=by simpa using h1
    have h':es= [] :=by simpa using h2
    subst this;subst h'
    simp [Op.eqFields,qdH]
   |cons f fs=>
    cases d with
    |zero=>simp [skF] at h
    |succ d=>
     simp only [skF] at h
     split at h
     ·rename_i hf
      simp only [decide_eq_true_eq] at hf
      split at h
      ·rename_i k1 hk1
       split at h
       ·rename_i hc
        simp only [decide_eq_true_eq] at hc
        split at h
        ·rename_i rest hrest
         simp at h;subst h
         obtain ⟨⟨z1,hu,hone⟩,e1⟩:=ih1 d f.type k1 (by omega) hk1
         obtain ⟨z2,e2⟩:=ih2 d fs _ rest (by omega) hrest
         refine ⟨by simp [z1,z2],fun D0 pre pre' ds es w hD hp hp' h1 h2=> ?_⟩
         obtain ⟨du,hdu⟩:=Option.isSome_iff_exists.1 hu
         obtain ⟨D1,rfl⟩: ∃D1,D0=D1+1:=⟨D0-1,by omega⟩
         --parts
         have spl: ∀(ds:List D),ds.map kdD=k1++rest-> ∃a b,ds=a++b/\a.map kdD=k1/\b.map kdD=rest:=by
          intro ds h
          refine ⟨ds.take k1.length,ds.drop k1.length,(List.take_append_drop _ _).symm, ?_, ?_⟩
          ·rw [List.map_take,h];simp
          ·rw [List.map_drop,h];simp
         obtain ⟨a1,b1,rfl,ha1,hb1⟩:=spl ds h1
         obtain ⟨a2,b2,rfl,ha2,hb2⟩:=spl es h2
         have la1:a1.length=k1.length:=by rw [<-ha1];simp
         have la2:a2.length=k1.length:=by rw [<-ha2];simp
         have prt: ∀(pre a b:List D),pre.length=off->a.length=k1.length->(part f.type ((pre++(a++b)).map qjA).toArray f.offset).run P w= .ok (qtc P f.type a) w:=by
          intro pre a b hp la
          rw [hf.2]
          have hlen:off+(if qaD P f.type then P.cellsOf f.type else 1)<=((pre++(a++b)).map qjA).length:=by
           split
           ·simp;omega
           ·rename_i hna
            have:=hone (by simpa using hna)
            simp;omega
          rw [qi6 hdu _ _ hlen]
          unfold qtc
          split
          ·congr 2
           rw [hc, <-la, <-hp]
           simp [List.map_append,List.map_drop]
          ·rename_i hna
           have h1:=hone (by simpa using hna)
           have hl1:a.length=1:=by omega
           match a,hl1 with
           | [x],_=>simp [<-hp,List.getD_eq_getElem?_getD]
         have p1:=prt pre a1 b1 hp la1
         have p2:=prt pre' a2 b2 hp' la2
         simp only [Op.eqFields,Sem.run_ite,if_pos hf.1,Sem.run_bind,p1,p2,Result.andThen_ok]
         rw [e1 (D1+1) a1 a2 w (by omega) ha1 ha2]
         rw [qhe (by omega)]
         simp only [Result.andThen_ok]
         cases hq:qdH a1 a2 with
         |false=>simp
         |true=>
          have:=e2 (D1+1) (pre++a1) (pre'++a2) b1 b2 w (by omega) (by simp;omega) (by simp;omega) hb1 hb2
          simpa [List.append_assoc] using this
        ·simp at h
       ·simp at h
      ·simp at h
     ·simp at h
theorem qlm{t:TypeId}{ks:List Nat}(h:qgp P 20 t=some ks)(ha:qaD P t=true)(hg:P.eqGuardType P.depth t=false):StructEq P t ks:=by
 obtain ⟨⟨h0,_,_⟩,he⟩:=(qnv (P:=P) 20).1 20 t ks (Nat.le_refl _) h
 refine ⟨h0,fun ds es w x y h1 h2=> ?_⟩
 have:=he 9999 ds es w (by omega) h1 h2
 simp only [qtc,ha,if_true] at this
 refine ⟨run_eqGuard_agg w _ t x y _ _ hg,run_eqGuard_agg w _ t x y _ _ hg, ?_, ?_⟩
 ·rw [run_eql_struct,this];rfl
 ·rw [run_neq_struct,this];rfl
end
end Go.Nv
end
section
namespace Go.Nv
open Go.RowKit
section
variable {P:Program} {T:Tb} {k0:Nat} {mu:Bool} {ρ:Operand->S} {τ:Nat->B} {ty:TypeId} {op:Op}
def Sx(P:Program)(k0:Nat)(mu:Bool)(ρ:Operand->S)(τ:Nat->B)(ty:TypeId)(op:Op)(s:S)(u:Option (Nat×B)):Prop:=
 ∃e:Eff,opS P k0 mu ρ τ ty op=some e/\e.side/\e.val=s/\e.upd=u
def qcw(P:Program)(k0:Nat)(mu:Bool)(ρ:Operand->S)(τ:Nat->B)(ty:TypeId)(op:Op):Out->Prop
 | .fail=>True
 | .val s u=>Sx P k0 mu ρ τ ty op s u
 | .side b s u=>b=true->Sx P k0 mu ρ τ ty op s u
 | .idx cells e xs n=> ∃xt x i k,op= .indexAddr xt x i/\ρ x= .d (.l xs)/\ρ i= .d (.v (.int k n))/\qbv P xt=some e/\P.cellsOf e=cells/\0<cells
 | .rld ty' agg cells size xs off=> ∃x k ver e bytes,op= .load ty' x/\ρ x= .ptr k ver off/\τ k= .row ver e size bytes xs/\(P.underlying ty').isSome=true/\qaD P ty'=agg/\P.cellsOf ty'=cells
 | .rst cells k v e size bytes xs off d=> ∃ty' x y,op= .store ty' x y/\ρ x= .ptr k v off/\τ k= .row v e size bytes xs/\ρ y= .d d/\(P.underlying ty').isSome=true/\P.cellsOf ty'=cells
 | .pick z a b=> ∃c x y,op= .pick c x y/\ρ c= .d (.v (.bool z))/\ρ x=a/\ρ y=b
 | .boo b=>Sx P k0 mu ρ τ ty op (.d (.v (.bool b))) none
variable {G:Out->Prop}
theorem qc5(hT:qcG P T){t:TypeId}{f:TI->Out}(hf:G .fail)(h: ∀i,qr3 P t i->G (f i)):G (ti T t f):=by
 unfold ti
 split
 ·rename_i i hi;exact h i (hT t i hi)
 ·exact hf
theorem qdu{a b:Nat}(h:Nat.blt a b=true):a<b:=by rw [Nat.blt_eq] at h;exact h
theorem qbE{b:Bool}{o:Out}(hf:G .fail)(h:b=true->G o):G (ch b o):=by
 cases b
 ·exact hf
 ·exact h rfl
theorem qAL(hT:qcG P T):qcw P k0 mu ρ τ ty op (opX T k0 mu ρ τ ty op):=by
 have F:qcw P k0 mu ρ τ ty op .fail:=trivial
 have mkv: ∀{e:Eff},opA P k0 mu ρ τ ty op=some e->e.side->qcw P k0 mu ρ τ ty op (.val e.val e.upd):=fun h hs=>⟨_,qdx h,hs,rfl,rfl⟩
 have mkE: ∀{e:Eff} {b:Bool},opA P k0 mu ρ τ ty op=none->opE P ρ τ op=some e->(b=true->e.side)->qcw P k0 mu ρ τ ty op (.side b e.val e.upd):=fun h0 h hs hb=>⟨_,by unfold opS;rw [h0];exact h,hs hb,rfl,rfl⟩
 have mks: ∀{e:Eff} {b:Bool},opA P k0 mu ρ τ ty op=some e->(b=true->e.side)->qcw P k0 mu ρ τ ty op (.side b e.val e.upd):=fun h hs hb=>⟨_,qdx h,hs hb,rfl,rfl⟩
 have mki: ∀{k:IntKind} {n:Int} {b:Prop} {v:Value},(b->v= .int k (wrV k n))->b->(∃e:Eff,opA P k0 mu ρ τ ty op=some e/\(b->wrS k n->e.side)/\e.val= .d (.v (.int k (wrV k n)))/\e.upd=none)->qcw P k0 mu ρ τ ty op (mkI k n):=by
  intro k n b v _ hb ⟨e,h1,h2,h3,h4⟩
  cases k<;>simp only [mkI,qcw,decide_eq_true_eq] <;>first
   |exact fun hh=>⟨e,qdx h1,h2 hb hh,h3,h4⟩
   |exact ⟨e,qdx h1,h2 hb trivial,h3,h4⟩
 cases op with
 |move x=>exact mkv (e:={val:=ρ x}) rfl trivial
 |assign x=>
  rw [opX]
  cases h:qjp x with
  |false=>
   refine mkv (e:={val:=ρ x}) ?_ trivial
   rw [opA]
   intro hx;subst hx;simp [qjp] at h
  |true=>
   have hx:x= .const (.slice none 0 0):=by
    unfold qjp at h
    split at h
    ·rfl
    ·simp at h
   subst hx
   refine qc5 hT F fun i hi=> ?_
   split
   ·rename_i e he
    refine qc5 hT F fun j hj=> ?_
    have h1:qbv P ty=some e:=by
     rcases hi.elem with h|h; · rw [he] at h;simp at h
     ·rw [h,he]
    rw [qmh, <-hj.cells, <-hj.bytes]
    exact mkv (e:={val:= .own k0 0,upd:=some (k0,.row 0 e (P.cellsOf e) (P.bytesOf e) [])}) (by simp only [opA,h1]) trivial
   ·exact F
 |pick c a b=>
  rw [opX]
  split
  ·rename_i z hz;exact ⟨c,a,b,rfl,hz,rfl,rfl⟩
  ·exact F
 |alloc e=>
  rw [opX]
  refine qc5 hT F fun i hi=> ?_
  split
  ·rename_i z zs hz
   have h1:zeroCells P e=some (z::zs):=by
    rcases hi.zero with h|h; · rw [hz] at h;simp at h
    ·rw [h,hz]
   exact mkv (e:={val:= .ptr k0 0 0,upd:=some (k0,.box e ((z::zs).map .d)),side:=(z::zs).isEmpty=false}) (by simp only [opA,h1]) rfl
  ·exact F
 |box e x=>
  rw [opX]
  have own: ∀s,ρ x=s->(mu=true\/ ∀y,s≠ .d y)->qcw P k0 mu ρ τ ty (.box e x) (ch (qoU (qh8 s.cells)) (ch (okX τ s) (.val (.ptr k0 0 0) (some (k0,.box e s.cells))))):=by
   intro s hs hm
   refine qbE F fun h1=>qbE F fun h2=> ?_
   rw [qdQ,qkN] at h1
   rw [qqB] at h2
   refine mkv (e:={val:= .ptr k0 0 0,upd:=some (k0,.box e s.cells),side:=s.cells.isEmpty=false/\okS (qap τ) s=true}) ?_ ⟨by simpa using h1,h2⟩
   rw [opA,hs]
   intro y hm' hy
   rcases hm with rfl|hm
   ·simp at hm'
   ·exact hm y (by rw [<-hs,hy])
  unfold qE8
  split
  ·rename_i y hy
   refine qbE trivial fun h1=> ?_
   exact mkv (e:={val:= .d (.p 0 y.cells),side:=y.cells.isEmpty=false}) (by simp only [opA,hy]) (qyD h1)
  ·rename_i hne
   refine own _ rfl ?_
   rename_i m _ _
   cases m with
   |true=>exact .inl rfl
   |false=>exact .inr fun y hy=>hne y rfl hy
 |build t ps=>
  rw [opX]
  refine qc5 hT F fun i hi=> ?_
  split
  ·rename_i pl zs hpl hzs
   refine qbE F fun h1=> ?_
   split
   ·rename_i cs hcs
    have h2:Nv.plcs P t=some pl:=by
     rcases hi.plcs with h|h; · rw [hpl] at h;simp at h
     ·rw [h,hpl]
    have h3:zeroCells P t=some zs:=by
     rcases hi.zero with h|h; · rw [hzs] at h;simp at h
     ·rw [h,hzs]
    rw [qvT] at h1
    refine mkv (e:={val:=qnS cs,side:=(ps.toList.all fun x=>okS (qap τ) (ρ x.2))=true}) (by simp only [opA,h2,h3,qkl _ _ _ _ hcs,Option.map_some]) ?_
    simpa [List.all_map] using h1
   ·exact F
  ·exact F
 |load ty' x=>
  rw [opX]
  refine qc5 hT F fun i hi=> ?_
  have hu:=hi.und
  split
  ·rename_i off cs hx
   rw [qfA hi]
   cases hp:qdf P ty' cs off with
   |none=>exact F
   |some d=>exact mkv (e:={val:= .d d}) (by simp only [opA,hu,hx,hp,if_true,Option.map_some]) trivial
  ·rename_i k ver off hx
   split
   ·rename_i bt cs hk
    refine qbE F fun h1=> ?_
    have h1:ver=0:=Nat.eq_of_beq_eq_true h1
    rw [qfy hi]
    cases hp:qfN P ty' cs off with
    |none=>exact F
    |some d=>exact mkv (e:={val:=d}) (by simp only [opA,hu,hx,hk,h1,hp,if_true,Option.map_some]) trivial
   ·rename_i v e size bytes xs hk
    refine qbE F fun h1=> ?_
    have h1:ver=v:=Nat.eq_of_beq_eq_true h1
    subst h1
    exact ⟨x,k,ver,e,bytes,rfl,hx,hk,hu,hi.agg,hi.cells⟩
   ·exact F
  ·exact F
 |store ty' x y=>
  rw [opX]
  refine qc5 hT F fun i hi=> ?_
  have hu:=hi.und
  split
  ·rename_i k ver off hx
   split
   ·rename_i bt cs hk
    refine qbE F fun h1=>qbE F fun h2=>qbE F fun h3=>qbE F fun h4=> ?_
    have h1:ver=0:=Nat.eq_of_beq_eq_true h1
    have h2:=Nat.le_of_ble_eq_true h2
    have h3:=Nat.eq_of_beq_eq_true h3
    rw [qaT] at h2 h3
    rw [qaT] at h2
    rw [qqB] at h4
    refine mkv (e:={val:= .top,upd:=some (k,.box bt (splice cs off (ρ y).cells)),side:=(ρ y).cells.length=P.cellsOf ty'/\okS (qap τ) (ρ y)=true}) ?_ ⟨by rw [h3,hi.cells],h4⟩
    simp only [opA,hu,hx,hk,if_true]
    rw [if_pos ⟨h1,h2⟩]
   ·rename_i v e size bytes xs hk
    split
    ·rename_i d hy
     refine qbE F fun h1=> ?_
     have h1:ver=v:=Nat.eq_of_beq_eq_true h1
     subst h1
     exact ⟨ty',x,y,rfl,hx,hk,hy,hu,hi.cells⟩
    ·exact F
   ·exact F
  ·exact F
 |fieldAddr s x f=>
  rw [opX]
  refine qc5 hT F fun i hi=> ?_
  split
  ·rename_i o ft hf
   refine qc5 hT F fun j hj=>qbE F fun h0=> ?_
   rw [qb7] at hf
   have hfo:qbZ P s f=some (o,ft):=by
    rcases hi.fields with h|h
    ·rw [h] at hf;simp at hf
    ·rw [h,hf]
   have hc:P.cellsOf ft≠0:=by rw [hj.cells];have:=qdu h0;omega
   split
   ·rename_i off cs hx
    exact mkv (e:={val:= .d (.p (off+o) cs),side:=P.cellsOf ft≠0}) (by simp only [opA,hfo,hx]) hc
   ·rename_i k ver off hx
    refine qbE F fun h1=> ?_
    exact mkv (e:={val:= .ptr k ver (off+o),side:=P.cellsOf ft≠0/\qap τ k=some (some ver)}) (by simp only [opA,hfo,hx]) ⟨hc,qha.1 h1⟩
   ·exact F
  ·exact F
 |field s x f=>
  rw [opX]
  refine qc5 hT F fun i hi=> ?_
  split
  ·rename_i o ft hf
   refine qc5 hT F fun j hj=> ?_
   rw [qb7] at hf
   have hfo:qbZ P s f=some (o,ft):=by
    rcases hi.fields with h|h
    ·rw [h] at hf;simp at hf
    ·rw [h,hf]
   have hu:=hj.und
   split
   ·rename_i cs hx
    rw [qfA hj]
    cases hp:qdf P ft cs o with
    |none=>exact F
    |some d=>exact mkv (e:={val:= .d d}) (by simp only [opA,hfo,hu,hx,hp,if_true,Option.map_some]) trivial
   ·rename_i cs hx
    rw [qfy hj]
    cases hp:qfN P ft cs o with
    |none=>exact F
    |some d=>exact mkv (e:={val:=d}) (by simp only [opA,hfo,hu,hx,hp,if_true,Option.map_some]) trivial
   ·exact F
  ·exact F
 |extract x i=>
  rw [opX]
  split
  ·rename_i xs hx
   rw [qb7]
   cases hp:xs[i]? with
   |none=>exact F
   |some d=>exact mkv (e:={val:=d}) (by simp only [opA,hx,hp,Option.map_some]) trivial
  ·exact F
 |binOp bop xt x y yt=>
  rw [opX]
  split
  ·rename_i a ha
   split
   ·rename_i b hb
    split
    ·rename_i p
     split
     ·rename_i q
      refine qc5 hT F fun i hi=>qbE F fun h0=> ?_
      have hbo:=hi.boo h0
      cases bop<;>first|exact F|skip
      ·show qcw _ _ _ _ _ _ _ (.boo _);exact mkv (e:={val:= .d (.v (.bool (p==q))),side:=P.underlying xt=some .bool}) (by simp only [opA,ha,hb]) hbo
      ·show qcw _ _ _ _ _ _ _ (.boo _);exact mkv (e:={val:= .d (.v (.bool (!(p==q)))),side:=P.underlying xt=some .bool}) (by simp only [opA,ha,hb]) hbo
     ·exact F
    ·rename_i hnb
     have hop:opA P k0 mu ρ τ ty (.binOp bop xt x y yt)=(qmp bop a b).map fun r=>{val:= .d (.v r.1),side:=r.2}:=by
      simp only [opA,ha,hb]
      split
      ·rename_i p q;exact absurd rfl (hnb p)
      ·rfl
     have key: ∀{v:Value} {sd:Prop},qmp bop a b=some (v,sd)->sd->qcw P k0 mu ρ τ ty (.binOp bop xt x y yt) (.val (.d (.v v)) none):=by
      intro v sd h1 h2
      exact mkv (e:={val:= .d (.v v),side:=sd}) (by rw [hop,h1];rfl) h2
     have keys: ∀{v:Value} {sd:Prop} {z:Bool},qmp bop a b=some (v,sd)->(z=true->sd)->qcw P k0 mu ρ τ ty (.binOp bop xt x y yt) (.side z (.d (.v v)) none):=by
      intro v sd z h1 h2
      exact mks (e:={val:= .d (.v v),side:=sd}) (by rw [hop,h1];rfl) h2
     have keyi: ∀{k:IntKind} {n:Int} {sd:Prop},qmp bop a b=some (.int k (wrV k n),sd)->(wrS k n->sd)->qcw P k0 mu ρ τ ty (.binOp bop xt x y yt) (mkI k n):=by
      intro k n sd h1 h2
      exact mki (b:=True) (v:= .int k (wrV k n)) (fun _=>rfl) trivial ⟨{val:= .d (.v (.int k (wrV k n))),side:=sd},by rw [hop,h1];rfl,fun _=>h2,rfl,rfl⟩
     have keyis: ∀{k:IntKind} {n:Int} {sd:Prop} {z:Bool},qmp bop a b=some (.int k (wrV k n),sd)->(z=true->wrS k n->sd)->qcw P k0 mu ρ τ ty (.binOp bop xt x y yt) (qsL z (mkI k n)):=by
      intro k n sd z h1 h2
      have ok: ∀b:Bool,(b=true->wrS k n)->(z&&b)=true->Sx P k0 mu ρ τ ty (.binOp bop xt x y yt) (.d (.v (.int k (wrV k n)))) none:=by
       intro b hb hz
       simp only [Bool.and_eq_true] at hz
       exact ⟨{val:= .d (.v (.int k (wrV k n))),side:=sd},qdx (by rw [hop,h1];rfl),h2 hz.1 (hb hz.2),rfl,rfl⟩
      cases k<;>simp only [mkI,qsL,qcw] <;>first
       |exact ok _ (by simp [wrS])
       |exact fun hz=>ok true (by simp [wrS]) (by simp [hz])
     have keym: ∀{k:IntKind} {n:Int} {sd:Prop},qmp bop a b=some (.int k (k.wrap n),sd)->sd->qcw P k0 mu ρ τ ty (.binOp bop xt x y yt) (mkI k n):=by
      intro k n sd h1 h2
      have base:Sx P k0 mu ρ τ ty (.binOp bop xt x y yt) (.d (.v (.int k (k.wrap n)))) none:=⟨{val:= .d (.v (.int k (k.wrap n))),side:=sd},qdx (by rw [hop,h1];rfl),h2,rfl,rfl⟩
      cases k<;>simp only [mkI,qcw] <;>first
       |(intro hz;rw [qeA .i8 n (by simpa [wrS] using hz)] at base;exact base)
       |(intro hz;rw [qeA .i16 n (by simpa [wrS] using hz)] at base;exact base)
       |(intro hz;rw [qeA .i32 n (by simpa [wrS] using hz)] at base;exact base)
       |(intro hz;rw [qeA .i64 n (by simpa [wrS] using hz)] at base;exact base)
       |(rw [qeA .u8 n trivial] at base;exact base)
       |(rw [qeA .u16 n trivial] at base;exact base)
       |(rw [qeA .u32 n trivial] at base;exact base)
       |(rw [qeA .u64 n trivial] at base;exact base)
     split
     ·rename_i hI
      have hm:=qrk hI
      subst hm
      unfold qEE
      split
      ·rename_i a b
       have h:=key (v:= .int .i64 (IntKind.i64.wrap (a*b))) (sd:=IntKind.i64=IntKind.i64) rfl rfl
       unfold qEG;exact h
      ·exact F
     cases a with
     |int k a=>
      cases b with
      |int k' b=>
       have two: ∀{v:Value} {sd:Prop},qmp bop (.int k a) (.int k' b)=some (v,sd)->(k=k'->sd)->Nat.beq (ikc k) (ikc k')=true->qcw P k0 mu ρ τ ty (.binOp bop xt x y yt) (.val (.d (.v v)) none):=fun h1 h2 h3=>key h1 (h2 (qc7 h3))
       cases bop<;>simp only [qEg] <;>first
        |exact keyis rfl (fun hz hw=>⟨by simpa using hz,hw⟩)
        |exact keys rfl (fun hz=>by simpa using hz)
        |(split
          ·rename_i hk
           have hk:=qc7 hk
           first
            |exact keyi rfl (fun hw=>⟨hk,hw⟩)
            |exact keym rfl hk
            |exact keyis rfl (fun hz hw=>⟨⟨hk,by simpa using hz⟩,hw⟩)
            |exact keys rfl (fun hz=>⟨hk,by simpa using hz⟩)
            |exact key rfl hk
            |(show qcw _ _ _ _ _ _ _ (.boo _);exact key rfl hk)
          ·exact F)
      |_=>exact F
     |string a=>
      cases b with
      |string b=>
       cases bop<;>simp only [qEg] <;>first
        |exact F
        |exact keys rfl (fun hz=>by simpa using hz)
        |(show qcw _ _ _ _ _ _ _ (.boo _);exact key rfl trivial)
      |_=>exact F
     |bool p=>exact absurd rfl (hnb p)
     |_=>exact F
   ·exact F
  ·rename_i as ha
   split
   ·rename_i bs hb
    refine qc5 hT F fun i hi=> ?_
    split
    ·rename_i ks hks
     refine qbE F fun h1=>qbE F fun h2=> ?_
     have h1:=qi9 h1
     have h2:=qi9 h2
     have hs:StructEq P xt (as.map kdD)/\as.map kdD=bs.map kdD:=⟨by rw [h1];exact hi.eqk ks hks,by rw [h1,h2]⟩
     cases bop<;>first|exact F|skip
     ·show qcw _ _ _ _ _ _ _ (.boo _);exact mkv (e:={val:= .d (.v (.bool (qdH as bs))),side:=StructEq P xt (as.map kdD)/\as.map kdD=bs.map kdD}) (by simp only [opA,ha,hb]) hs
     ·show qcw _ _ _ _ _ _ _ (.boo _);exact mkv (e:={val:= .d (.v (.bool (!qdH as bs))),side:=StructEq P xt (as.map kdD)/\as.map kdD=bs.map kdD}) (by simp only [opA,ha,hb]) hs
    ·exact F
   ·exact F
  ·rename_i ds ha
   split
   ·rename_i hb
    refine qc5 hT F fun i hi=> ?_
    split
    ·rename_i e he
     have hE: ∃e,P.underlying xt=some (.slice e):=by
      rcases hi.elem with h|h
      ·rw [h] at he;cases he
      ·rw [he] at h;exact ⟨e,qbG h⟩
     have hn:qoU (qh8 ds)=true->ds≠ [] :=fun h hd=>by subst hd;cases h
     cases bop<;>first|exact F|skip
     ·exact mks (e:={val:= .d (.v (.bool false)),side:=ds≠ [] /\ ∃e,P.underlying xt=some (.slice e)}) (by simp only [opA,ha,hb]) (fun h=>⟨hn h,hE⟩)
     ·exact mks (e:={val:= .d (.v (.bool true)),side:=ds≠ [] /\ ∃e,P.underlying xt=some (.slice e)}) (by simp only [opA,ha,hb]) (fun h=>⟨hn h,hE⟩)
    ·exact F
   ·exact F
  ·exact F
 |unOp uop t x=>
  rw [opX]
  split
  ·rename_i a ha
   split
   ·rename_i b
    rw [qdQ]
    exact mkv (e:={val:= .d (.v (.bool !b))}) (by simp [opA,ha,unV]) trivial
   ·rename_i k n
    have h0:opA P k0 mu ρ τ ty (.unOp .neg t x)=some {val:= .d (.v (.int k (k.wrap (0-n))))}:=by simp [opA,ha,unV]
    have ok:wrS k (0-n)->Sx P k0 mu ρ τ ty (.unOp .neg t x) (.d (.v (.int k (wrV k (0-n))))) none:=fun hw=>⟨_,qdx h0,trivial,by rw [qeA _ _ hw],rfl⟩
    cases k<;>simp only [mkI,qcw] <;>first
     |exact fun hh=>ok (by simpa [wrS] using hh)
     |exact ok trivial
   ·rename_i k n
    exact mkv (e:={val:= .d (.v (.int k (k.wrap (BitVec.ofInt k.bits (if k.signed then-1 else k.max)^^^BitVec.ofInt k.bits n).toNat)))}) (by simp [opA,ha,unV]) trivial
   ·exact F
  ·exact F
 |nilCheck x=>
  rw [opX]
  split
  ·rename_i off cs hx;exact mkv (e:={val:= .d (.p off cs)}) (by simp only [opA,hx]) trivial
  ·rename_i k ver off hx
   refine qbE F fun h1=> ?_
   exact mkv (e:={val:= .ptr k ver off,side:=qap τ k=some (some ver)}) (by simp only [opA,hx]) (qha.1 h1)
  ·rename_i g cap hx;exact mkv (e:={val:= .d (.f g cap)}) (by simp only [opA,hx]) trivial
  ·exact F
 |index xt x i=>
  rw [opX]
  split
  ·rename_i s k n hx hi
   refine qc5 hT F fun j hj=>qbE F fun h0=> ?_
   exact mks (e:={val:= .d (.v (.int .u8 (bt s n))),side:=0<=n/\n<s.size/\P.underlying xt=some .string}) (by simp only [opA,hx,hi]) (fun hz=>by simp only [decide_eq_true_eq] at hz;exact ⟨hz.1,hz.2,hj.str h0⟩)
  ·rename_i cs k n hx hi
   refine qc5 hT F fun j hj=> ?_
   split
   ·rename_i len e harr
    have h1:qoV P xt=some (len,e):=by
     rcases hj.arr with h|h; · rw [harr] at h;simp at h
     ·rw [h,harr]
    refine qc5 hT F fun je hje=>qbE F fun h0=> ?_
    have h0:0<je.cells:=qdu h0
    split
    ·rename_i d hd
     rw [qfA hje, <-hje.cells] at hd
     refine mkE (e:={val:= .d d,side:=0<=n/\n<len/\P.cellsOf e≠0/\(P.underlying e).isSome=true}) (by simp only [opA,hx,hi]) (by simp only [opE,h1,hx,hi,hd,Option.map_some]) fun hz=> ?_
     simp only [decide_eq_true_eq] at hz
     exact ⟨hz.1,hz.2,by rw [hje.cells];omega,hje.und⟩
    ·exact F
   ·exact F
  ·exact F
 |indexAddr xt x i=>
  rw [opX]
  refine qc5 hT F fun j hj=> ?_
  split
  ·rename_i e he
   refine qc5 hT F fun je hje=>qbE F fun h0=> ?_
   have h0:0<je.cells:=qdu h0
   have h1:qbv P xt=some e:=by
    rcases hj.elem with h|h; · rw [he] at h;simp at h
    ·rw [h,he]
   split
   ·rename_i xs k n hx hi
    rw [qmh]
    exact ⟨xt,x,i,k,rfl,hx,hi,h1,hje.cells,h0⟩
   ·rename_i k ver k' n hx hi
    split
    ·rename_i v e' size bytes xs hk
     refine qbE F fun h2=>qbE F fun h3=> ?_
     have h2:ver=v:=Nat.eq_of_beq_eq_true h2
     have h3:=Nat.eq_of_beq_eq_true h3
     exact mks (e:={val:= .ptr k ver (n.toNat*size),side:=ver=v/\size=P.cellsOf e/\0<=n/\n<xs.length/\Uni size xs/\0<size}) (by simp only [opA,hx,hi,h1,hk]) (fun hz=>by
      simp only [Bool.and_eq_true,decide_eq_true_eq,qbL] at hz
      exact ⟨h2,by rw [h3,hje.cells],hz.1.1,hz.1.2,hz.2,by omega⟩)
    ·exact F
   ·exact F
  ·rename_i hn
   split
   ·rename_i len e harr
    have h1:qoV P xt=some (len,e):=by
     rcases hj.arr with h|h; · rw [harr] at h;simp at h
     ·rw [h,harr]
    have hno:opA P k0 mu ρ τ ty (.indexAddr xt x i)=none:=by
     have he:qbv P xt=none:=by
      unfold qoV at h1;unfold qbv
      split at h1
      ·rename_i hu;rw [hu]
      ·simp at h1
     simp only [opA,he]
     cases ρ x with
     |d y=>cases y<;>(try rfl);(cases ρ i<;>(try rfl));(rename_i q;cases q<;>(try rfl));(rename_i w;cases w<;>rfl)
     |own k v=>cases ρ i<;>(try rfl);(rename_i q;cases q<;>(try rfl));(rename_i w;cases w<;>rfl)
     |_=>rfl
    unfold qAU
    refine qc5 hT F fun je hje=>qbE F fun h0=> ?_
    have h0:0<je.cells:=qdu h0
    split
    ·rename_i kk n hi
     split
     ·rename_i k ver off hx
      refine qbE F fun hv=> ?_
      have hv:=qha.1 hv
      rw [qmh]
      refine mkE (e:={val:= .ptr k ver (off+n.toNat*je.cells),side:=0<=n/\n<len/\P.cellsOf e≠0/\qap τ k=some (some ver)}) hno (by simp only [opE,h1,hi,hx,hje.cells]) fun hz=> ?_
      simp only [decide_eq_true_eq] at hz
      exact ⟨hz.1,hz.2,by rw [hje.cells];omega,hv⟩
     ·rename_i off cs hx
      rw [qmh]
      refine mkE (e:={val:= .d (.p (off+n.toNat*je.cells) cs),side:=0<=n/\n<len/\P.cellsOf e≠0}) hno (by simp only [opE,h1,hi,hx,hje.cells]) fun hz=> ?_
      simp only [decide_eq_true_eq] at hz
      exact ⟨hz.1,hz.2,by rw [hje.cells];omega⟩
     ·exact F
    ·exact F
   ·exact F
 |makeFunc f first cap=>
  cases f with
  |func g=>
   rw [opX]
   refine qbE F fun h0=> ?_
   have h0:first= #[] :=by
    rw [qkN] at h0
    simpa using h0
   exact mkv (e:={val:=match qdV (cap.toList.map ρ) with|some ds=> .d (.f g ds)|none=> .clo g (cap.toList.map ρ)}) (by rw [opA,if_pos h0];cases qdV (List.map ρ cap.toList)<;>rfl) trivial
  |_=>exact F
 |makeSlice t l c=>
  rw [opX]
  refine qc5 hT F fun i hi=> ?_
  split
  ·rename_i e he
   refine qc5 hT F fun j hj=>qbE F fun h0=>qbE F fun h00=> ?_
   have h1:qbv P t=some e:=by
    rcases hi.elem with h|h; · rw [he] at h;simp at h
    ·rw [h,he]
   split
   ·rename_i zs hz
    have h2:zeroCells P e=some zs:=by
     rcases hj.zero with h|h; · rw [hz] at h;simp at h
     ·rw [h,hz]
    split
    ·rename_i k n k' m hl hc
     refine qbE F fun h3=> ?_
     rw [qmh,qyV]
     refine mks (b:=decide (0<=n/\n<=m/\m<=maxLen/\(j.bytes:Int)*m<=281474976710656)) (e:={val:= .own k0 0,upd:=some (k0,.row 0 e j.cells j.bytes (List.replicate n.toNat (match j.agg with|true=> .a zs|false=>zs.headD (.v undef)))),side:=qd8 P e (P.cellsOf e) (P.bytesOf e)/\0<P.cellsOf e/\(qaD P e=false->zs.length=1)/\0<=n/\n<=m/\m<=maxLen/\(P.bytesOf e:Int)*m<=281474976710656}) ?_ (fun hq=> ?_)
     ·simp only [opA,h1,h2,hl,hc,hj.cells,hj.bytes,hj.agg]
      cases j.agg<;>rfl
     ·simp only [decide_eq_true_eq] at hq
      rw [hj.cells,hj.bytes,hj.agg]
      refine ⟨hj.eok h0,qdu h00,fun ha=> ?_,hq⟩
      rw [ha] at h3
      rw [<-qaT];exact Nat.eq_of_beq_eq_true h3
    ·exact F
   ·exact F
  ·exact F
 |slice xt x lo hi m=>
  cases m with
  |some _=>exact F
  |none=>
   have ints: ∀q n,qrE ρ q n=qfb ρ q n:=by
    intro q n
    cases q with
    |none=>rfl
    |some q=>simp only [qrE,qfb];cases ρ q<;>rfl
   rw [opX]
   refine qc5 hT F fun i hi'=> ?_
   split
   ·rename_i s hx
    refine qbE F fun h0=> ?_
    split
    ·rename_i l h hl hh
     rw [ints] at hl hh
     exact mks (e:={val:= .d (.v (.string (s.extract l.toNat h.toNat))),side:=0<=l/\l<=h/\h<=s.size/\P.underlying xt=some .string}) (by simp only [opA,hx,hl,hh]) (fun hz=>by simp only [decide_eq_true_eq] at hz;exact ⟨hz.1,hz.2.1,hz.2.2,hi'.str h0⟩)
    ·exact F
   ·rename_i xs hx
    split
    ·rename_i e he
     refine qc5 hT F fun j hj=>qbE F fun h0=> ?_
     have h1:qbv P xt=some e:=by
      rcases hi'.elem with h|h; · rw [he] at h;simp at h
      ·rw [h,he]
     split
     ·rename_i l h hl hh
      rw [ints] at hl hh
      rw [qmh]
      exact mks (e:={val:= .d (.l (qcr xs l.toNat h.toNat)),side:=0<=l/\l<=h/\h<=xs.length/\Uni (P.cellsOf e) xs/\0<P.cellsOf e}) (by simp only [opA,hx,hl,hh,h1]) (fun hz=>by
       simp only [Bool.and_eq_true,decide_eq_true_eq,qbL] at hz
       rw [hj.cells]
       exact ⟨hz.1.1,hz.1.2.1,hz.1.2.2,hz.2,qdu h0⟩)
     ·exact F
    ·exact F
   ·rename_i k ver hx
    split
    ·rename_i e he
     refine qc5 hT F fun j hj=>qbE F fun h0=> ?_
     have h1:qbv P xt=some e:=by
      rcases hi'.elem with h|h; · rw [he] at h;simp at h
      ·rw [h,he]
     split
     ·rename_i v et size bytes xs hk
      refine qbE F fun h2=>qbE F fun h3=> ?_
      have h2:ver=v:=Nat.eq_of_beq_eq_true h2
      have h3:=Nat.eq_of_beq_eq_true h3
      split
      ·rename_i l h hl hh
       rw [ints] at hl hh
       refine mkE (e:={val:= .d (.l (qcr xs l.toNat h.toNat)),upd:=some (k,.dead),side:=ver=v/\size=P.cellsOf e/\0<=l/\l<=h/\h<=xs.length/\Uni size xs/\0<size}) (by simp only [opA,hx]) (by simp only [opE,hx,hk,h1,hl,hh]) fun hz=> ?_
       simp only [Bool.and_eq_true,decide_eq_true_eq,qbL] at hz
       exact ⟨h2,by rw [h3,hj.cells],hz.1.1,hz.1.2.1,hz.1.2.2,hz.2,by rw [h3];exact qdu h0⟩
      ·exact F
     ·exact F
    ·exact F
   ·split
    ·rename_i len e harr
     have h1:qoV P xt=some (len,e):=by
      rcases hi'.arr with h|h; · rw [harr] at h;simp at h
      ·rw [h,harr]
     unfold qEV
     refine qc5 hT F fun je hje=>qbE F fun h0=> ?_
     have h0:=Nat.eq_of_beq_eq_true h0
     split
     ·rename_i k ver hx
      split
      ·rename_i bt cs hk
       split
       ·rename_i ds hds
        refine qbE F fun a1=>qbE F fun a2=>qbE F fun a3=>qbE F fun a4=> ?_
        have a1:=Nat.eq_of_beq_eq_true a1
        have a2:=Nat.eq_of_beq_eq_true a2
        rw [qaT] at a2
        split
        ·rename_i l h hl hh
         rw [ints] at hl hh
         refine mkE (e:={val:= .d (.l (qcr ds l.toNat h.toNat)),upd:=some (k,.dead),side:=ver=0/\0<=l/\l<=h/\h<=len/\ds.length=len/\P.cellsOf e=1/\(∀x∈ds,x.cells= [x])/\0<len/\len<=maxLen}) (by simp only [opA,hx]) (by simp only [opE,hx,hk,h1,hds,hl,hh]) fun hz=> ?_
         simp only [decide_eq_true_eq] at hz
         exact ⟨a1,hz.1,hz.2.1,hz.2.2.1,a2,by rw [hje.cells];exact h0,qqH a3,qdu a4,hz.2.2.2⟩
        ·exact F
       ·exact F
      ·exact F
     ·exact F
    ·exact F
   ·exact F
 |convert src dst x=>
  rw [opX]
  unfold qyF
  have byt: ∀{src:TypeId} {i j:TI} {e:TypeId},qr3 P src i->i.elem=some e->qr3 P e j->j.ik=some .u8->qfK P src:=by
   intro src i j e hi he hj hk
   refine ⟨e, ?_, ?_⟩
   ·rcases hi.elem with h|h
    ·rw [he] at h;simp at h
    ·rw [he] at h;unfold qbv at h;split at h
     ·rename_i hu;simp at h;subst h;exact hu
     ·simp at h
   ·rcases hj.ik with h|h
    ·rw [hk] at h;simp at h
    ·rw [hk] at h;unfold qdw at h;split at h
     ·rename_i hu;simp at h;subst h;exact hu
     ·simp at h
  split
  ·rename_i k n hx
   refine qc5 hT F fun i hi=>qc5 hT F fun j hj=> ?_
   split
   ·rename_i k' hk
    have h1:qdw P dst=some k':=by
     rcases hj.ik with h|h; · rw [hk] at h;simp at h
     ·rw [h,hk]
    exact mki (b:=True) (v:= .int k' (wrV k' n)) (fun _=>rfl) trivial ⟨{val:= .d (.v (.int k' (wrV k' n))),side:=(P.underlying src).isSome=true/\wrS k' n},by simp only [opA,hx,h1],fun _ hw=>⟨hi.und,hw⟩,rfl,rfl⟩
   ·exact F
  ·rename_i s hx
   refine qc5 hT F fun l hl=>qbE F fun h0=>qc5 hT F fun i hi=> ?_
   split
   ·rename_i e he
    refine qc5 hT F fun j hj=> ?_
    split
    ·rename_i hk
     exact mkE (e:={val:= .d (.l (strD s)),side:=P.underlying src=some .string/\qfK P dst/\s.size<=maxLen}) (by simp only [opA,hx]) (by simp only [opE,hx]) fun hz=>⟨hl.str h0,byt hi he hj hk,of_decide_eq_true hz⟩
    ·exact F
   ·exact F
  ·rename_i xs hx
   refine qc5 hT F fun i hi=> ?_
   split
   ·rename_i e he
    refine qc5 hT F fun j hj=> ?_
    split
    ·rename_i hk
     refine qc5 hT F fun l hl=>qbE F fun h0=> ?_
     exact mkE (e:={val:= .d (.v (.string (qf9 xs))),side:=qfK P src/\P.underlying dst=some .string/\qiY xs}) (by simp only [opA,hx]) (by simp only [opE,hx]) fun hz=>⟨byt hi he hj hk,hl.str h0,qcM.1 hz⟩
    ·exact F
   ·exact F
  ·rename_i k ver hx
   split
   ·rename_i v et size bytes xs hk
    refine qc5 hT F fun i hi=> ?_
    split
    ·rename_i e he
     refine qc5 hT F fun j hj=> ?_
     split
     ·rename_i hik
      refine qc5 hT F fun l hl=>qbE F fun h0=>qbE F fun h1=>qbE F fun h2=> ?_
      exact mkE (e:={val:= .d (.v (.string (qf9 xs))),side:=ver=v/\size=1/\qfK P src/\P.underlying dst=some .string/\qiY xs}) (by simp only [opA,hx]) (by simp only [opE,hx,hk]) fun hz=>⟨Nat.eq_of_beq_eq_true h1,Nat.eq_of_beq_eq_true h2,byt hi he hj hik,hl.str h0,qcM.1 hz⟩
     ·exact F
    ·exact F
   ·exact F
  ·exact F
 |buildSlice t n parts=>
  rw [opX]
  refine qc5 hT F fun i hi=> ?_
  split
  ·rename_i e he
   have h1:qbv P t=some e:=by
    rcases hi.elem with h|h; · rw [he] at h;simp at h
    ·rw [h,he]
   refine qc5 hT F fun j hj=>qbE F fun a1=>qbE F fun a2=>qbE F fun a3=>qbE F fun a5=> ?_
   have a2:0<j.cells:=qdu a2
   have a3:=qi9 a3
   have a5:=Nat.le_of_ble_eq_true a5
   split
   ·rename_i ds hds
    refine qbE F fun a6=> ?_
    have a6:=qbL.1 a6
    have hop:opA P k0 mu ρ τ ty (.buildSlice t n parts)=some {val:=if mu then .own k0 0 else .d (.l ds),upd:=if mu then some (k0,.row 0 e (P.cellsOf e) (P.bytesOf e) ds) else none,side:=qd8 P e (P.cellsOf e) (P.bytesOf e)/\0<P.cellsOf e/\Uni (P.cellsOf e) ds/\n*P.cellsOf e<=16777216}:=by
     simp only [opA,h1,hds]
     rw [if_pos a3]
    have hsd:qd8 P e (P.cellsOf e) (P.bytesOf e)/\0<P.cellsOf e/\Uni (P.cellsOf e) ds/\n*P.cellsOf e<=16777216:=by
     rw [hj.cells,hj.bytes];exact ⟨hj.eok a1,a2,a6,a5⟩
    have:=mkv hop hsd
    rw [hj.cells,hj.bytes] at this
    cases mu
    ·exact this
    ·simp only [qmh];exact this
   ·exact F
  ·exact F
 |call c=>
  obtain ⟨cal,args,ts⟩:=c
  cases cal with
  |builtin b=>
   cases b with
   |len=>
    rw [opX]
    split
    ·rename_i x t ha ht
     unfold qEH
     refine qc5 hT F fun i hi=> ?_
     have hel: ∀e,i.elem=some e->(qbv P t).isSome=true:=fun e he=>by
      rcases hi.elem with h|h
      ·rw [he] at h;simp at h
      ·rw [h,he];rfl
     split
     ·rename_i xs hx
      split
      ·rename_i e he
       exact mkv (e:={val:= .d (.v (.int .i64 xs.length)),side:=(qbv P t).isSome=true}) (by simp only [opA,ha,ht,hx]) (hel e he)
      ·exact F
     ·rename_i s hx
      refine qbE F fun h0=> ?_
      exact mkv (e:={val:= .d (.v (.int .i64 s.size)),side:=P.underlying t=some .string}) (by simp only [opA,ha,ht,hx]) (hi.str h0)
     ·rename_i k ver hx
      split
      ·rename_i v e size bytes xs hk
       refine qbE F fun h0=> ?_
       have h0:=Nat.eq_of_beq_eq_true h0
       split
       ·rename_i e he
        exact mkv (e:={val:= .d (.v (.int .i64 xs.length)),side:=ver=v/\(qbv P t).isSome=true}) (by simp only [opA,ha,ht,hx,hk]) ⟨h0,hel e he⟩
       ·exact F
      ·exact F
     ·exact F
    ·exact F
   |append=>
    rw [opX]
    split
    ·rename_i s x t t' ha ht
     unfold qEQ
     refine qbE F fun h0=>qc5 hT F fun i hi=> ?_
     have h0:=Nat.eq_of_beq_eq_true h0
     split
     ·rename_i e he
      have h1:qbv P t=some e:=by
       rcases hi.elem with h|h; · rw [he] at h;simp at h
       ·rw [h,he]
      split
      ·rename_i k ver ys hs hx
       split
       ·rename_i v e' size bytes xs hk
        refine qbE F fun a1=>qbE F fun a2=>qc5 hT F fun j hj=>qbE F fun a3=>qbE F fun a4=>qbE F fun a5=>qbE F fun a6=> ?_
        have a1:=Nat.eq_of_beq_eq_true a1
        have a2:=Nat.eq_of_beq_eq_true a2
        have a4:=Nat.eq_of_beq_eq_true a4
        have a5:=Nat.eq_of_beq_eq_true a5
        have a6:=qdu a6
        refine mks (b:=(qhc size xs&&(qhc size ys&&decide (xs.length+ys.length<=maxLen/\(xs.length+ys.length)*bytes<=140737488355328)))) (e:={val:= .own k (v+1),upd:=some (k,.row (v+1) e size bytes (xs++ys)),side:=qd8 P e size bytes/\0<size/\Uni size xs/\Uni size ys/\xs.length+ys.length<=maxLen/\(xs.length+ys.length)*bytes<=140737488355328}) ?_ (fun hz=> ?_)
        ·simp only [opA,ha,ht,hs,hx,h1,hk]
         rw [if_pos ⟨h0,a1,a2⟩]
        ·simp only [Bool.and_eq_true,decide_eq_true_eq,qbL] at hz
         have:=hj.eok a3
         rw [<-a4, <-a5] at this
         exact ⟨this,a6,hz.1,hz.2.1,hz.2.2.1,hz.2.2.2⟩
       ·exact F
      ·exact F
     ·exact F
    ·exact F
   |copy=>
    rw [opX]
    split
    ·rename_i x y t t' ha ht
     unfold qEP
     refine qc5 hT F fun i hi=> ?_
     split
     ·rename_i e he
      have h1:qbv P t=some e:=by
       rcases hi.elem with h|h; · rw [he] at h;simp at h
       ·rw [h,he]
      split
      ·rename_i k ver ys hx hy
       split
       ·rename_i v e' size bytes xs hk
        refine qbE F fun a1=>qbE F fun a2=>qc5 hT F fun j hj=>qbE F fun a3=>qbE F fun a4=>qbE F fun a5=>qbE F fun a6=> ?_
        have a1:=Nat.eq_of_beq_eq_true a1
        have a2:=Nat.eq_of_beq_eq_true a2
        have a4:=Nat.eq_of_beq_eq_true a4
        have a5:=Nat.eq_of_beq_eq_true a5
        have a6:=qdu a6
        refine mkE (b:=(qhc size xs&&(qhc size ys&&decide (xs.length=ys.length)))) (e:={val:= .d (.v (.int .i64 ys.length)),upd:=some (k,.row v e size bytes ys),side:=qd8 P e size bytes/\0<size/\Uni size xs/\Uni size ys/\xs.length=ys.length}) (by simp only [opA]) ?_ (fun hz=> ?_)
        ·simp only [opE,ha,ht,hx,hy,h1,hk]
         rw [if_pos ⟨a1,a2⟩]
        ·simp only [Bool.and_eq_true,decide_eq_true_eq,qbL] at hz
         have:=hj.eok a3
         rw [<-a4, <-a5] at this
         exact ⟨this,a6,hz.1,hz.2.1,hz.2.2⟩
       ·exact F
      ·exact F
     ·exact F
    ·exact F
   |max=>
    rw [opX]
    split
    ·rename_i x y ha
     split
     ·rename_i k a k' b hx hy
      refine qbE F fun h0=> ?_
      exact mkv (e:={val:= .d (.v (.int k (if a<b then b else a))),side:=k=k'}) (by simp only [opA,ha,hx,hy]) (qc7 h0)
     ·exact F
    ·rename_i x y z ha
     split
     ·rename_i k a k1 b k2 c hx hy hz
      refine qbE F fun h0=> ?_
      refine qbE F fun h1=> ?_
      exact mkv (e:={val:= .d (.v (.int k (mx3 a b c))),side:=k=k1/\k=k2}) (by simp only [opA,ha,hx,hy,hz]) ⟨qc7 h0,qc7 h1⟩
     ·exact F
    ·rename_i x y z u ha
     split
     ·rename_i k a k1 b k2 c k3 f hx hy hz hu
      refine qbE F fun h0=> ?_
      refine qbE F fun h1=> ?_
      refine qbE F fun h2=> ?_
      exact mkv (e:={val:= .d (.v (.int k (mx4 a b c f))),side:=k=k1/\k=k2/\k=k3}) (by simp only [opA,ha,hx,hy,hz,hu]) ⟨qc7 h0,qc7 h1,qc7 h2⟩
     ·exact F
    ·exact F
   |min=>
    rw [opX]
    split
    ·rename_i x y ha
     split
     ·rename_i k a k' b hx hy
      refine qbE F fun h0=> ?_
      exact ⟨{val:= .d (.v (.int k (if b<a then b else a))),side:=k=k'},by simp only [opS,opA,opE,ha,hx,hy],qc7 h0,rfl,rfl⟩
     ·exact F
    ·exact F
   |_=>exact F
  |value f=>exact F
  |invoke r m=>exact F
 |_=>exact F
end
end Go.Nv
end
section
namespace Go.Nv
open Go.RowKit
def Ok(P:Program)(c:Code)(st:St)(K:Ex->St->Prop):Prop:=
 ∀(n:Nat) (old bs:Nat->Prop) (w0:Ctx) (a:Act) (W:World) (ι:Nat->Value),Rel old bs w0 ι st a W->c.wpIn (FW w0.r) n P (qrH old bs w0 K) a W
def OkOp(P:Program)(o:Oper)(st:St)(K:St->Prop):Prop:=
 ∀(n:Nat) (old bs:Nat->Prop) (w0:Ctx) (a:Act) (W:World) (ι:Nat->Value) (Kw:Act->World->Prop) (Q:Exit->Act->World->Prop),Rel old bs w0 ι st a W->
  (∀st' a' W' ι',K st'->Rel old bs w0 ι' st' a' W'->Kw a' W')->o.wpIn (FW w0.r) n P a W Kw Q
def qc4(st st':St):Prop:= ∀(old bs:Nat->Prop) (w0:Ctx) (a:Act) (W:World) (ι:Nat->Value),Rel old bs w0 ι st a W-> ∃ι',Rel old bs w0 ι' st' a W
section
variable {P:Program} {st st' st'':St} {K K':Ex->St->Prop} {c:Code}
theorem qc4.refl(st:St):qc4 st st:=fun _ _ _ _ _ ι h=>⟨ι,h⟩
theorem qc4.trans(h:qc4 st st')(k:qc4 st' st''):qc4 st st'':=fun old bs w0 a W ι hr=>by
 obtain ⟨ι',h1⟩:=h old bs w0 a W ι hr
 exact k old bs w0 a W ι' h1
theorem Ok.weak(hw:qc4 st st')(h:Ok P c st' K):Ok P c st K:=fun n old bs w0 a W ι hr=>by
 obtain ⟨ι',h1⟩:=hw old bs w0 a W ι hr
 exact h n old bs w0 a W ι' h1
theorem OkOp.weak{o:Oper}{K:St->Prop}(hw:qc4 st st')(h:OkOp P o st' K):OkOp P o st K:=fun n old bs w0 a W ι Kw Q hr hk=>by
 obtain ⟨ι',h1⟩:=hw old bs w0 a W ι hr
 exact h n old bs w0 a W ι' Kw Q h1 hk
theorem Ok.mono(h:Ok P c st K)(hk: ∀e st',K e st'->K' e st'):Ok P c st K':=fun n old bs w0 a W ι hr=>
 wpIn_mono (h n old bs w0 a W ι hr) fun e a' W' ⟨x,st',ι',h1,h2,h3⟩=>⟨x,st',ι',h1,hk x st' h2,h3⟩
theorem qEv(hm:P.follows .mixedOrders=true){mu:Tmp->Bool}(h:vc P mu c st K):Ok P c st K:=fun n old bs w0 a W ι hr=>qrW hm c st K h a W ι hr
end
def LeS:S->S->Prop
 |_,.top=>True
 |s,s'=>s=s'
def LeL:List S->List S->Prop
 | [], [] =>True
 |s::ss,s'::ss'=>LeS s s'/\LeL ss ss'
 |_,_=>False
theorem LeS.den{s s':S}(h:LeS s s'){W:World}{ι:Nat->Value}{vr:Nat->Option (Option Nat)}{ok:Nat->Prop}{v:Value}(hs:qaF W ι vr ok s v):qaF W ι vr ok s' v:=by
 cases s' with
 |top=>exact .top
 |_=>have:s=_:=h;rw [<-this];exact hs
theorem LeL.den{W:World}{ι:Nat->Value}{vr:Nat->Option (Option Nat)}{ok:Nat->Prop}: ∀{ss ss':List S} {us:List Value},LeL ss ss'->qao W ι vr ok ss us->qao W ι vr ok ss' us
 | [], [],us,_,h=>h
 |s::ss,s'::ss',us,hl,h=>by
  obtain ⟨u,us',rfl,h1,h2⟩:=h.cons_inv
  exact qao.cons (hl.1.den h1) (hl.2.den h2)
 | [],_::_,us,hl,h=>hl.elim
 |_::_, [],us,hl,h=>hl.elim
theorem qwQ{env env':List S}{t t':List B}(ht:t=t')(h:LeL env env'):qc4 ⟨env,t⟩ ⟨env',t'⟩:=fun old bs w0 a W ι hr=>by
 subst ht
 exact ⟨ι,hr.defers,hr.oldIn,hr.fr,hr.tok,h.den hr.env,hr.gh,hr.lap,hr.rnd⟩
def lk:List S->Nat->S
 | [],_=> .top
 |x::_,0=>x
 |_::xs,n+1=>lk xs n
def st1:List S->Nat->S->List S
 | [],_,_=> []
 |_::xs,0,s=>s::xs
 |x::xs,n+1,s=>x::st1 xs n s
theorem qj3(xs:List S)(n:Nat):lk xs n=xs.getD n .top:=by
 induction xs generalizing n with
 |nil=>simp [lk]
 |cons x xs ih=>cases n with
  |zero=>simp [lk]
  |succ n=>simp [lk,ih]
theorem qp5(xs:List S)(n:Nat)(s:S):st1 xs n s=xs.set n s:=by
 induction xs generalizing n with
 |nil=>simp [st1]
 |cons x xs ih=>cases n with
  |zero=>simp [st1]
  |succ n=>simp [st1,ih]
def evx(env:List S):Operand->S
 | .tmp t=>lk env t
 | .const v=>match qkJ v with|some d=> .d d|none=> .top
 | .global _=> .top
 | .func f=> .d (.f f [])
def qdZ(env:List S)(dst:Option Tmp)(s:S):List S:=match dst with|some d=>st1 env d s|none=>env
theorem qbe:evx=ev:=by
 funext env x
 cases x with
 |tmp t=>simp [evx,ev,qj3]
 |const v=>simp only [evx,ev];cases qkJ v<;>rfl
 |global g=>rfl
 |func f=>rfl
theorem qbq:qdZ=qe9:=by
 funext env dst s
 cases dst<;>simp [qdZ,qe9,qp5]
def cnd(z:Bool)(A B:Prop):Prop:=match z with|true=>A|false=>B
def qBi(s:S)(K:S->Prop):Prop:=match s with
 | .d x=>K (.d x)
 | .ptr a b c=>K (.ptr a b c)
 | .own a b=>K (.own a b)
 | .clo g cap=>K (.clo g cap)
 | .tup xs=>K (.tup xs)
 | .agg xs=>K (.agg xs)
 | .top=>K .top
theorem qcL(s:S)(K:S->Prop):qBi s K=K s:=by cases s<;>rfl
def qBA{α:Type}:List α->(List α->Prop)->Prop
 | [],K=>K []
 |x::xs,K=>qBA xs fun ys=>K (x::ys)
theorem qxi{α:Type}(xs:List α)(K:List α->Prop):qBA xs K=K xs:=by
 induction xs generalizing K with
 |nil=>rfl
 |cons x xs ih=>exact ih _
def frc(st:St)(K:St->Prop):Prop:=qBA st.env fun env=>qBA st.t fun t=>K ⟨env,t⟩
theorem qaE(st:St)(K:St->Prop):frc st K=K st:=by simp [frc,qxi]
@[irreducible] def Sd(b:Bool)(K:Prop):Prop:=b=true/\K
@[irreducible] def qbJ(P:Program)(f:Operand)(args:List Operand)(dst:Option Tmp)(st:St)(K:St->Prop):Prop:=
 ∀o:Oper,(∃ts,o.op= .call {callee:= .value f,args:=args.toArray,argTypes:=ts})->o.dst=dst->OkOp P o st K
@[irreducible] def qxO(cells:Nat)(xs:List D)(n:Int)(K:D->Prop):Prop:=
 ∃x,xs[n.toNat]? =some x/\0<=n/\Uni cells xs/\K (.p 0 x.cells)
@[irreducible] def qxT(agg:Bool)(cells size:Nat)(xs:List D)(off:Nat)(K:D->Prop):Prop:=
 ∃i r x d,off=i*size+r/\r<size/\xs[i]? =some x/\Uni size xs/\qoB agg cells x.cells r=some d/\K d
@[irreducible] def quv(cells size:Nat)(xs:List D)(off:Nat)(d:D)(K:List D->Prop):Prop:=
 ∃xs',qdh size xs off d.cells=some xs'/\d.cells.length=cells/\Uni size xs/\0<size/\K xs'
@[irreducible] def OkC(P:Program)(c:Code)(st:St)(K:Ex->St->Prop):Prop:=Ok P c st K
@[irreducible] def qml(P:Program)(g:FuncId)(ds:List D)(t:List B)(K:qcO->S->Option (Nat×B)->Prop):Prop:=
 (∃res,Fun P g ds res/\K ⟨[],none⟩ (qjj res) none)\/
 (∃e size bytes res,qpM P g ds e size res/\K ⟨[],some t.length⟩ (.own t.length 0) (some (t.length,.row 0 e size bytes res)))
@[irreducible] def qhy(ops:Array Oper)(ls:List qcO)(K:Prop):Prop:=qgC ops ls=true/\K
def qcT:List B->Nat->B
 | [],_=> .gone
 |b::_,0=>b
 |_::t,n+1=>qcT t n
@[irreducible] def qxw(P:Program)(g:FuncId)(cap:List D)(as:List S)(t:List B)(K:qcO->S->Option (Nat×B)->Prop):Prop:=
 (∃rest ds k ver e size bytes xs ys,cap= [] /\as= .own k ver::rest/\qdV rest=some ds/\qcT t k= .row ver e size bytes xs/\qnt P g e size ds xs ys/\K ⟨[k],some k⟩ (.own k (ver+1)) (some (k,.row (ver+1) e size bytes ys)))\/
 (∃k ver e size bytes xs ds res,qcT t k= .row ver e size bytes xs/\0<size/\qdV (as.map (qxG k ver xs))=some ds/\Fun P g (ds++cap) res/\K ⟨[k],some k⟩ (qjj res) (some (k,.dead)))
theorem qbd:qcT=tat:=by
 funext t k
 induction t generalizing k with
 |nil=>simp [qcT,tat]
 |cons b t ih=>cases k with
  |zero=>simp [qcT,tat]
  |succ k=>simp [qcT,ih];simp [tat]
def qaY:List B->Nat->B->List B
 | [],0,b=> [b]
 | [],n+1,b=> .gone::qaY [] n b
 |_::t,0,b=>b::t
 |x::t,n+1,b=>x::qaY t n b
theorem qbS:qaY=qaG:=by
 funext t k b
 induction t generalizing k with
 |nil=>
  induction k with
  |zero=>simp [qaY,qaG]
  |succ k ih=>simp [qaY,ih];simp [qaG,List.replicate_succ]
 |cons x t ih=>cases k with
  |zero=>simp [qaY,qaG]
  |succ k=>
   simp only [qaY,ih,qaG,List.length_cons]
   by_cases h:k<t.length
   ·simp [h]
   ·simp [h]
def qq1(t:List B):Option (Nat×B)->List B
 |none=>t
 |some (k,b)=>qaY t k b
theorem qe4:qq1=qjV:=by
 funext t u
 cases u with
 |none=>rfl
 |some x=>simp [qq1,qjV,qbS]
def tt':S:= .d (.v (.bool true))
def ff':S:= .d (.v (.bool false))
def qBg(n:Nat)(K:Nat->Prop):Prop:=match n with
 |0=>K 0|1=>K 1|2=>K 2|3=>K 3|4=>K 4|5=>K 5|6=>K 6|7=>K 7|8=>K 8|9=>K 9|10=>K 10|11=>K 11|12=>K 12
 |13=>K 13|14=>K 14|15=>K 15|16=>K 16|17=>K 17|18=>K 18|19=>K 19|20=>K 20|21=>K 21|22=>K 22|23=>K 23|24=>K 24|n=>K n
theorem qhA(n:Nat)(K:Nat->Prop):qBg n K=K n:=by unfold qBg;split<;>rfl
def qjU(o:Out)(Kv:S->Option (Nat×B)->Prop):Prop:=
 match o with
 | .fail=>False
 | .val s u=>qBi s fun s=>Kv s u
 | .side b s u=>Sd b (Kv s u)
 | .idx cells e xs n=>qxO cells xs n fun d=>Kv (.d d) none
 | .rld ty agg cells size xs off=>qxT agg cells size xs off fun d=>Kv (.d d) none
 | .rst cells k v e size bytes xs off d=>quv cells size xs off d fun xs'=>Kv .top (some (k,.row v e size bytes xs'))
 | .pick z a b=>cnd z (qBi a fun a=>Kv a none) (qBi b fun b=>Kv b none)
 | .boo b=>Kv (.d (.v (.bool (bz b)))) none
def qun(P:Program)(T:Tb)(mu:Tmp->Bool)(o:Oper)(st:St)(K:St->Prop):Prop:=
 match o.op with
 | .call {callee:= .value f,args,.. }=>qbJ P f args.toList o.dst st K
 |op=>qBg (qck st.t) fun k0=>qjU (opX T k0 (qrK mu o.dst) (evx st.env) (qcT st.t) o.type op) fun s u=>frc ⟨qdZ st.env o.dst s,qq1 st.t u⟩ K
def qhd(ops:List Oper)(j:Nat):Option Tmp:=match lkO ops j with|some o=>o.dst|none=>none
def gop(P:Program)(T:Tb)(mu:Tmp->Bool)(ops:List Oper)(o:Oper)(st:St)(Kr:St->Prop):Prop:=
 match o.guard with
 |none=>qun P T mu o st Kr
 |some (j,want)=>
  match qhd ops j with
  |some d=>
   match lk st.env d with
   | .d (.v (.bool b))=>
    cnd b (match want with
      |true=>frc ⟨st1 st.env d tt',st.t⟩ fun st=>qun P T mu o st Kr
      |false=>frc ⟨qdZ (st1 st.env d tt') o.dst (.tup []),st.t⟩ fun st=>Kr st)
     (match want with
      |true=>frc ⟨qdZ (st1 st.env d ff') o.dst (.tup []),st.t⟩ fun st=>Kr st
      |false=>frc ⟨st1 st.env d ff',st.t⟩ fun st=>qun P T mu o st Kr)
   | .tup [] =>frc ⟨qdZ st.env o.dst (.tup []),st.t⟩ fun st=>Kr st
   |_=>False
  |none=>False
def qlP(P:Program)(T:Tb)(mu:Tmp->Bool)(ops:List Oper):List Oper->St->(St->Prop)->Prop
 | [],st,K=>K st
 |o::rest,st,K=>gop P T mu ops o st fun st'=>qlP P T mu ops rest st' K
def qk9(P:Program)(T:Tb)(mu:Tmp->Bool)(o:Oper)(st:St)(K:qcO->St->Prop):Prop:=
 match o.op with
 | .call {callee:= .value f,args,.. }=>
  match evx st.env f,qdV (args.toList.map (evx st.env)) with
  | .d (.f g cap),some ds=>qml P g (ds++cap) st.t fun l s u=>frc ⟨qdZ st.env o.dst s,qq1 st.t u⟩ (K l)
  | .d (.f g cap),none=>qxw P g cap (args.toList.map (evx st.env)) st.t fun l s u=>frc ⟨qdZ st.env o.dst s,qq1 st.t u⟩ (K l)
  |_,_=>False
 |op=>qBg (qck st.t) fun k0=>qjU (opX T k0 (qrK mu o.dst) (evx st.env) (qcT st.t) o.type op) fun s u=>frc ⟨qdZ st.env o.dst s,qq1 st.t u⟩ (K ⟨qgf (evx st.env) op,u.map (·.1)⟩)
def gdr(P:Program)(T:Tb)(mu:Tmp->Bool)(ops:List Oper)(o:Oper)(st:St)(Kr:qcO->St->Prop):Prop:=
 match o.guard with
 |none=>qk9 P T mu o st Kr
 |some (j,want)=>
  match qhd ops j with
  |some d=>
   match lk st.env d with
   | .d (.v (.bool b))=>
    cnd b (match want with
      |true=>frc ⟨st1 st.env d tt',st.t⟩ fun st=>qk9 P T mu o st Kr
      |false=>frc ⟨qdZ (st1 st.env d tt') o.dst (.tup []),st.t⟩ fun st=>Kr ⟨[],none⟩ st)
     (match want with
      |true=>frc ⟨qdZ (st1 st.env d ff') o.dst (.tup []),st.t⟩ fun st=>Kr ⟨[],none⟩ st
      |false=>frc ⟨st1 st.env d ff',st.t⟩ fun st=>qk9 P T mu o st Kr)
   | .tup [] =>frc ⟨qdZ st.env o.dst (.tup []),st.t⟩ fun st=>Kr ⟨[],none⟩ st
   |_=>False
  |none=>False
def qdI(P:Program)(T:Tb)(mu:Tmp->Bool)(ops:List Oper):List Oper->List qcO->St->(List qcO->St->Prop)->Prop
 | [],acc,st,K=>K acc st
 |o::rest,acc,st,K=>gdr P T mu ops o st fun l st'=>qdI P T mu ops rest (acc++ [l]) st' K
def qDD(k:St->(Ex->St->Prop)->Prop)(K:Ex->St->Prop)(e:Ex)(st:St):Prop:=match e with
 | .normal=>k st K
 | .exit i=>K (.exit i) st
 | .ret=>K .ret st
def qBe(id:Nat)(K:Ex->St->Prop)(e:Ex)(st:St):Prop:=match e with
 | .exit i=>match Nat.beq i id with|true=>K .normal st|false=>K (.exit i) st
 | .normal=>K .normal st
 | .ret=>K .ret st
def qBp(K:Ex->St->Prop)(st:St):Prop:=K .normal st
def qDX(ops:Array Oper)(K:Ex->St->Prop)(ls:List qcO)(st:St):Prop:=qhy ops ls (K .normal st)
def go(P:Program)(T:Tb)(mu:Tmp->Bool):Code->St->(Ex->St->Prop)->Prop
 | .skip,st,K=>K .normal st
 | .region _ ops draw,st,K=>match draw with
  |true=>qdI P T mu ops.toList ops.toList [] st (qDX ops K)
  |false=>qlP P T mu ops.toList ops.toList st (qBp K)
 | .seq a b,st,K=>go P T mu a st (qDD (go P T mu b) K)
 | .cond c a b,st,K=>match c with
  | .tmp d=>match lk st.env d with
   | .d (.v (.bool z))=>cnd z (frc ⟨st1 st.env d tt',st.t⟩ fun st=>go P T mu a st K) (frc ⟨st1 st.env d ff',st.t⟩ fun st=>go P T mu b st K)
   |_=>False
  |c=>match evx st.env c with
   | .d (.v (.bool z))=>cnd z (go P T mu a st K) (go P T mu b st K)
   |_=>False
 | .block id body,st,K=>go P T mu body st (qBe id K)
 | .exit id,st,K=>K (.exit id) st
 | .ret,st,K=>K .ret st
 |c,st,K=>OkC P c st K
end Go.Nv
end
section
namespace Go.Nv
open Go.RowKit
section
variable {P:Program} {T:Tb} {mu:Tmp->Bool} {o:Oper} {st:St}
theorem qsY{K:St->Prop}{e:Eff}(he:opS P st.t.length (qrK mu o.dst) (ev st.env) (tat st.t) o.type o.op=some e)(hs:e.side)(hk:K ⟨qe9 st.env o.dst e.val,qjV st.t e.upd⟩):OkOp P o st K:=
 fun n old bs w0 a W ι Kw Q hr hK=>
 qc1 hr (qhj hr.tok hr.oldIn (qb0 _) hr.ev (fun v=>rfl) he hs) (qe7 he) fun a' W' ι' _ hrel=>hK _ _ _ ι' hk hrel
theorem qnO{size:Nat}{xs:List D}(hu:Uni size xs){i r:Nat}{x d:D}{ty:TypeId}(hx:xs[i]? =some x)(hr:r<size)(hd:qdf P ty x.cells r=some d):qdf P ty (flat xs) (i*size+r)=some d:=by
 obtain ⟨h1,h2,h3⟩:=qkp hu hx
 unfold qdf at*
 by_cases ha:qaD P ty=true
 ·rw [if_pos ha] at hd ⊢
  split at hd
  ·rename_i hl
   rw [if_pos (by omega)]
   rw [<-hd, <-h1, <-List.drop_drop]
   congr 2
   rw [List.drop_take,List.take_take]
   congr 1
   omega
  ·simp at hd
 ·rw [if_neg ha] at hd ⊢
  rw [<-hd, <-h1,List.getElem?_take_of_lt hr,List.getElem?_drop]
theorem qrw{k0:Nat}{m:Bool}{ρ:Operand->S}{τ:Nat->B}{ty:TypeId}{op:Op}{Kv:S->Option (Nat×B)->Prop}(hT:qcG P T)
  (h:qjU (opX T k0 m ρ τ ty op) Kv): ∃s u,Sx P k0 m ρ τ ty op s u/\Kv s u:=by
 have ho:qcw P k0 m ρ τ ty op (opX T k0 m ρ τ ty op):=qAL hT
 revert h ho
 generalize opX T k0 m ρ τ ty op=out
 intro h ho
 unfold qjU at h
 cases out with
 |fail=>exact h.elim
 |val s u=>simp only [qcL] at h;exact ⟨s,u,ho,h⟩
 |side b s u=>unfold Sd at h;exact ⟨s,u,ho h.1,h.2⟩
 |boo b=>simp only [qaH] at h;exact ⟨_,_,ho,h⟩
 |idx cells e xs n=>
  simp only at h
  unfold qxO at h
  obtain ⟨x,h1,h2,h3,h4⟩:=h
  obtain ⟨xt,y,i,k,rfl,hy,hi,he,hc,h0⟩:=ho
  exact ⟨_,_,⟨{val:= .d (.p 0 x.cells),side:=0<=n/\Uni (P.cellsOf e) xs/\0<P.cellsOf e},qdx (by simp only [opA,hy,hi,he,h1,Option.map_some]),⟨h2,by rw [hc];exact h3,by omega⟩,rfl,rfl⟩,h4⟩
 |rld ty' agg cells size xs off=>
  simp only at h
  unfold qxT at h
  obtain ⟨i,r,x,d,rfl,hr,hx,hu,hd,hk⟩:=h
  obtain ⟨y,k,ver,e,bytes,rfl,hy,hb,hund,ha,hc⟩:=ho
  rw [qmE ha hc] at hd
  exact ⟨_,_,⟨{val:= .d d},qdx (by simp only [opA,hund,hy,hb,if_true,qnO hu hx hr hd,Option.map_some]),trivial,rfl,rfl⟩,hk⟩
 |rst cells k v e size bytes xs off d=>
  simp only at h
  unfold quv at h
  obtain ⟨xs',h1,h2,h3,h4,hk⟩:=h
  obtain ⟨ty',x,y,rfl,hx,hb,hy,hund,hc⟩:=ho
  exact ⟨_,_,⟨{val:= .top,upd:=some (k,.row v e size bytes xs'),side:=d.cells.length=P.cellsOf ty'/\Uni size xs/\0<size},qdx (by simp only [opA,hund,hx,hb,hy,h1,if_true,Option.map_some]),⟨by rw [hc];exact h2,h3,h4⟩,rfl,rfl⟩,hk⟩
 |pick z a b=>
  obtain ⟨c,x,y,rfl,hc,rfl,rfl⟩:=ho
  simp only [qcL] at h
  cases z with
  |true=>exact ⟨ρ x,none,⟨{val:=ρ x},qdx (by simp only [opA,hc,if_true]),trivial,rfl,rfl⟩,h⟩
  |false=>exact ⟨ρ y,none,⟨{val:=ρ y},qdx (by simp [opA,hc]),trivial,rfl,rfl⟩,h⟩
theorem qez{K:St->Prop}(hT:qcG P T)(h:qun P T mu o st K):OkOp P o st K:=by
 have plain:qjU (opX T (qck st.t) (qrK mu o.dst) (evx st.env) (qcT st.t) o.type o.op) (fun s u=>frc ⟨qdZ st.env o.dst s,qq1 st.t u⟩ K)->OkOp P o st K:=by
  intro h
  obtain ⟨s,u,⟨e,he,hs,rfl,rfl⟩,hk⟩:=qrw hT h
  rw [qaT,qbe,qbd] at he
  rw [qaE,qbq,qe4] at hk
  exact qsY he hs hk
 unfold qun at h
 split at h
 ·rename_i f args ts ho
  unfold qbJ at h
  exact h o ⟨ts,by rw [ho]⟩ rfl
 ·rw [qhA] at h;exact plain h
theorem qeE: ∀{env:List S} {d:Nat} {s:S},lk env d=s->s≠ .top->st1 env d s=env
 | [],d,s,h,hn=>by simp [lk] at h;exact absurd h.symm hn
 |x::env,0,s,h,hn=>by simp [lk] at h;subst h;rfl
 |x::env,d+1,s,h,hn=>by simp only [lk] at h;simp only [st1];rw [qeE h hn]
theorem qhn{ops:Array Oper}{K:St->Prop}{n:Nat}{old bs:Nat->Prop}{w0:Ctx}{Q:Exit->Act->World->Prop}(hT:qcG P T)(hK: ∀st' a' W' ι',K st'->Rel old bs w0 ι' st' a' W'->Q .normal a' W'):
  ∀(l:List Oper) (i:Nat) (st:St) (a:Act) (W:World) (ι:Nat->Value),ops.toList.drop i=l->qlP P T mu ops.toList l st K->Rel old bs w0 ι st a W->wpOpsIn (FW w0.r) n P ops Q (List.range' i l.length) a W:=by
 intro l
 induction l with
 |nil=>intro i st a W ι _ hv h;exact hK _ _ _ _ hv h
 |cons o l ih=>
  intro i st a W ι hd hv h
  have hoi:ops[i]? =some o:=by
   have:(ops.toList.drop i)[0]? =some o:=by rw [hd];rfl
   simpa using this
  have hd':ops.toList.drop (i+1)=l:=by
   rw [<-List.drop_drop,hd];rfl
  rw [List.length_cons,List.range'_succ]
  simp only [wpOpsIn,hoi]
  unfold qlP gop at hv
  split at hv
  ·rename_i hg
   rw [if_pos (by simp [Region.wanted,hg])]
   exact qez hT hv _ _ _ _ _ _ _ _ _ h fun st' a' W' ι' hk hrel=>ih (i+1) _ _ _ ι' hd' hk hrel
  ·rename_i j want hg
   split at hv
   ·rename_i d hd2
    split at hv
    ·rename_i b hb
     have hj:(ops[j]?).bind (·.dst)=some d:=by
      unfold qhd at hd2
      rw [qb7] at hd2
      rw [Array.getElem?_toList] at hd2
      split at hd2
      ·rename_i oo hoo;rw [hoo];exact hd2
      ·simp at hd2
     have hsd:=h.ev (.tmp d)
     have hb':ev st.env (.tmp d)= .d (.v (.bool b)):=by rw [<-qbe];exact hb
     rw [hb'] at hsd
     have hval:=(qda hsd).1
     have hy:yielded ops a.tmps j=some b:=by
      unfold yielded
      rw [hj]
      simp only [Option.bind_some]
      have:a.tmps.getD d undef= .bool b:=hval
      cases hq:a.tmps[d]? with
      |none=>rw [Array.getD_eq_getD_getElem?,hq] at this;simp [undef] at this
      |some q=>rw [Array.getD_eq_getD_getElem?,hq] at this;simp at this;rw [this]
     have hcs:(b=want/\qun P T mu o st fun st'=>qlP P T mu ops.toList l st' K)\/(b≠want/\qlP P T mu ops.toList l ⟨qdZ st.env o.dst (.tup []),st.t⟩ K):=by
      cases b with
      |true=>
       have e1:st1 st.env d tt'=st.env:=qeE hb (by simp [tt',ff'])
       simp only [cnd,e1,qaE] at hv
       cases want with
       |true=>exact .inl ⟨rfl,hv⟩
       |false=>exact .inr ⟨by simp,hv⟩
      |false=>
       have e1:st1 st.env d ff'=st.env:=qeE hb (by simp [tt',ff'])
       simp only [cnd,e1,qaE] at hv
       cases want with
       |true=>exact .inr ⟨by simp,hv⟩
       |false=>exact .inl ⟨rfl,hv⟩
     rcases hcs with ⟨hbw,hgo⟩|⟨hbw,hgo⟩
     ·rw [if_pos (by simp [Region.wanted,hg,hy,hbw])]
      exact qez hT hgo _ _ _ _ _ _ _ _ _ h fun st' a' W' ι' hk hrel=>ih (i+1) _ _ _ ι' hd' hk hrel
     ·rw [if_neg (by simp [Region.wanted,hg,hy,hbw])]
      refine ⟨fun f _=>FW.fn _ f, ?_⟩
      rw [qbq] at hgo
      refine ih (i+1) _ _ _ ι hd' hgo ?_
      exact h.put (qaw.refl h.tok) (qhq _ _ _ _)
    ·rename_i hb
     have hj:(ops[j]?).bind (·.dst)=some d:=by
      unfold qhd at hd2
      rw [qb7] at hd2
      rw [Array.getElem?_toList] at hd2
      split at hd2
      ·rename_i oo hoo;rw [hoo];exact hd2
      ·simp at hd2
     have hsd:=h.ev (.tmp d)
     have hb':ev st.env (.tmp d)= .tup [] :=by rw [<-qbe];exact hb
     rw [hb'] at hsd
     have hy:=qcJ (ops:=ops) (a:=a) hj (qkL hsd)
     rw [if_neg (by simp [Region.wanted,hg,hy])]
     refine ⟨fun f _=>FW.fn _ f, ?_⟩
     rw [qaE,qbq] at hv
     refine ih (i+1) _ _ _ ι hd' hv ?_
     exact h.put (qaw.refl h.tok) (qhq _ _ _ _)
    ·exact hv.elim
   ·exact hv.elim
theorem qq2{K:qcO->St->Prop}(hT:qcG P T)(h:qk9 P T mu o st K):qcd P mu o st K:=by
 have plain: ∀op,o.op=op->(∀f args ts,op≠ .call {callee:= .value f,args:=args,argTypes:=ts})->qjU (opX T (qck st.t) (qrK mu o.dst) (evx st.env) (qcT st.t) o.type op) (fun s u=>frc ⟨qdZ st.env o.dst s,qq1 st.t u⟩ (K ⟨qgf (evx st.env) op,u.map (·.1)⟩))->qcd P mu o st K:=by
  intro op hop hne h
  obtain ⟨s,u,⟨e,he,hs,rfl,rfl⟩,hk⟩:=qrw hT h
  rw [qaT,qbe,qbd] at he
  rw [qaE,qbq,qe4,qbe] at hk
  subst hop
  unfold qcd
  split
  ·rename_i f args ts ho;exact (hne f args ts ho).elim
  ·rw [he];exact ⟨hs,hk⟩
 unfold qk9 at h
 split at h
 ·rename_i f args ts ho
  unfold qcd
  simp only [ho]
  split at h
  ·rename_i g cap ds hf hds
   rw [qbe] at hf hds
   simp only [hf,hds]
   unfold qml at h
   simp only [qaE] at h
   rw [qbq,qe4] at h
   exact h
  ·rename_i g cap hf hds
   rw [qbe] at hf hds h
   simp only [hf,hds]
   unfold qxw at h
   rcases h with ⟨rest,ds,k,ver,e,size,bytes,xs,ys,rfl,h1,h2,h3,h4,h5⟩|⟨k,ver,e,size,bytes,xs,ds,res,h1,h2,h3,h4,h5⟩
   ·cases hal:args.toList with
    |nil=>rw [hal] at h1;simp at h1
    |cons x rst=>
     rw [hal,List.map_cons] at h1
     obtain ⟨e1,e2⟩:=List.cons.inj h1
     rw [qaE,qbq,qe4] at h5
     rw [qbd] at h3
     exact .inl ⟨x,rst,ds,k,ver,e,size,bytes,xs,ys,rfl,rfl,e1,by rw [e2];exact h2,h3,h4,h5⟩
   ·rw [qaE,qbq,qe4] at h5
    rw [qbd] at h1
    exact .inr ⟨k,ver,e,size,bytes,xs,ds,res,h1,h2,h3,h4,h5⟩
  ·exact h.elim
 ·rename_i hne
  rw [qhA] at h
  exact plain _ rfl (fun f args ts h=>hne f args ts h) h
theorem qhr{K K':qcO->St->Prop}(hkk: ∀l st,K l st->K' l st):qcd P mu o st K->qcd P mu o st K':=by
 unfold qcd
 split
 ·split
  ·intro hv
   rcases hv with ⟨res,a1,a2⟩|⟨e,size,bytes,res,a1,a2⟩
   ·exact .inl ⟨res,a1,hkk _ _ a2⟩
   ·exact .inr ⟨e,size,bytes,res,a1,hkk _ _ a2⟩
  ·rintro (⟨x,rest,ds,k,ver,e,size,bytes,xs,ys,h1,h2,h3,h4,h5,h6,h7⟩|⟨k,ver,e,size,bytes,xs,ds,res,h1,h2,h3,h4,h5⟩)
   ·exact .inl ⟨x,rest,ds,k,ver,e,size,bytes,xs,ys,h1,h2,h3,h4,h5,h6,hkk _ _ h7⟩
   ·exact .inr ⟨k,ver,e,size,bytes,xs,ds,res,h1,h2,h3,h4,hkk _ _ h5⟩
  ·exact id
 ·split
  ·exact fun hv=>⟨hv.1,hkk _ _ hv.2⟩
  ·exact id
theorem qdA(hT:qcG P T){ops:Array Oper}{K K':List qcO->St->Prop}(hk: ∀ls st,K ls st->K' ls st): ∀(l:List Oper) (acc:List qcO) (st:St),qdI P T mu ops.toList l acc st K->qgD P mu ops l acc st K'
 | [],acc,st,h=>hk _ _ h
 |o::rest,acc,st,hv=>by
  unfold qdI gdr at hv
  unfold qgD
  split at hv
  ·rename_i hg
   simp only [hg]
   exact qhr (fun l st' h'=>qdA hT hk rest _ st' h') (qq2 hT hv)
  ·rename_i j want hg
   simp only [hg]
   split at hv
   ·rename_i d hd2
    split at hv
    ·rename_i b hb
     have hj:(ops[j]?).bind (·.dst)=some d:=by
      unfold qhd at hd2
      rw [qb7] at hd2
      rw [Array.getElem?_toList] at hd2
      split at hd2
      ·rename_i oo hoo;rw [hoo];exact hd2
      ·simp at hd2
     have hb':ev st.env (.tmp d)= .d (.v (.bool b)):=by rw [<-qbe];exact hb
     have hcs:(b=want/\qk9 P T mu o st fun l st'=>qdI P T mu ops.toList rest (acc++ [l]) st' K)\/(b≠want/\qdI P T mu ops.toList rest (acc++ [⟨[],none⟩]) ⟨qdZ st.env o.dst (.tup []),st.t⟩ K):=by
      cases b with
      |true=>
       have e1:st1 st.env d tt'=st.env:=qeE hb (by simp [tt',ff'])
       simp only [cnd,e1,qaE] at hv
       cases want with
       |true=>exact .inl ⟨rfl,hv⟩
       |false=>exact .inr ⟨by simp,hv⟩
      |false=>
       have e1:st1 st.env d ff'=st.env:=qeE hb (by simp [tt',ff'])
       simp only [cnd,e1,qaE] at hv
       cases want with
       |true=>exact .inr ⟨by simp,hv⟩
       |false=>exact .inl ⟨rfl,hv⟩
     rw [hj]
     simp only [hb']
     rcases hcs with ⟨hbw,hgo⟩|⟨hbw,hgo⟩
     ·exact ⟨fun _=>qhr (fun l st' h'=>qdA hT hk rest _ st' h') (qq2 hT hgo),fun h=>absurd hbw h⟩
     ·rw [qbq] at hgo
      exact ⟨fun h=>absurd h hbw,fun _=>qdA hT hk rest _ _ hgo⟩
    ·rename_i hb
     have hj:(ops[j]?).bind (·.dst)=some d:=by
      unfold qhd at hd2
      rw [qb7] at hd2
      rw [Array.getElem?_toList] at hd2
      split at hd2
      ·rename_i oo hoo;rw [hoo];exact hd2
      ·simp at hd2
     have hb':ev st.env (.tmp d)= .tup [] :=by rw [<-qbe];exact hb
     rw [hj]
     simp only [hb']
     rw [qaE,qbq] at hv
     exact qdA hT hk rest _ _ hv
    ·exact hv.elim
   ·exact hv.elim
theorem qkV(hm:P.follows .mixedOrders=true)(hT:qcG P T)(c:Code): ∀(st:St) (K:Ex->St->Prop),go P T mu c st K->Ok P c st K:=by
 induction c with
 |skip=>intro st K h n old bs w0 a W ι hr;exact wpIn_skip ⟨.normal,st,ι,rfl,h,hr⟩
 |region id ops draw=>
  intro st K h
  cases draw with
  |false=>
   intro n old bs w0 a W ι hr
   refine wpIn_region ?_
   have:=qhn (n:=n) (old:=old) (bs:=bs) (w0:=w0) (Q:=qrH old bs w0 K) (K:=qBp K) hT (fun st' a' W' ι' hk hrel=>⟨.normal,st',ι',rfl,hk,hrel⟩)
    ops.toList 0 st a W ι (by simp) h hr
   rw [List.range_eq_range']
   simpa using this
  |true=>exact qEv (mu:=mu) hm (qdA hT (fun ls st' h'=>by unfold qDX qhy at h';exact ⟨fun _=>h'.1,h'.2⟩) _ _ _ h)
 |seq x y ihx ihy=>
  intro st K h n old bs w0 a W ι hr
  refine wpIn_seq (wpIn_mono (ihx st _ h n old bs w0 a W ι hr) ?_)
  rintro e a' W' ⟨x',st',ι',rfl,hk,hrel⟩
  cases x' with
  |normal=>exact ihy st' K hk n old bs w0 a' W' ι' hrel
  |exit id=>exact ⟨.exit id,st',ι',rfl,hk,hrel⟩
  |ret=>exact ⟨.ret,st',ι',rfl,hk,hrel⟩
 |cond o x y ihx ihy=>
  intro st K h n old bs w0 a W ι hr
  have key: ∀z,ev st.env o= .d (.v (.bool z))->(z=true->go P T mu x st K)->(z=false->go P T mu y st K)->(Code.cond o x y).wpIn (FW w0.r) n P (qrH old bs w0 K) a W:=by
   intro z hz h1 h2
   have hsd:=hr.ev o
   rw [hz] at hsd
   refine wpIn_cond (qda hsd).1 ?_
   cases z with
   |true=>exact ihx st K (h1 rfl) n old bs w0 a W ι hr
   |false=>exact ihy st K (h2 rfl) n old bs w0 a W ι hr
  unfold go at h
  split at h
  ·rename_i d
   split at h
   ·rename_i z hz
    have hz':ev st.env (.tmp d)= .d (.v (.bool z)):=by rw [<-qbe];exact hz
    refine key z hz' (fun e=> ?_) (fun e=> ?_)
    ·subst e
     have e1:st1 st.env d tt'=st.env:=qeE hz (by simp [tt',ff'])
     simp only [cnd,e1,qaE] at h
     exact h
    ·subst e
     have e1:st1 st.env d ff'=st.env:=qeE hz (by simp [tt',ff'])
     simp only [cnd,e1,qaE] at h
     exact h
   ·exact h.elim
  ·rw [qbe] at h
   split at h
   ·rename_i z hz
    refine key z hz (fun e=> ?_) (fun e=> ?_)
    ·subst e;exact h
    ·subst e;exact h
   ·exact h.elim
 |block id x ih=>
  intro st K h n old bs w0 a W ι hr
  refine wpIn_block (wpIn_mono (ih st _ h n old bs w0 a W ι hr) ?_)
  rintro e a' W' ⟨x',st',ι',rfl,hk,hrel⟩
  cases x' with
  |normal=>exact ⟨.normal,st',ι',rfl,hk,hrel⟩
  |exit i=>
   simp only [Ex.toExit,Exit.inBlock]
   simp only [qBe] at hk
   by_cases hi:i=id
   ·simp only [hi,Nat.beq_refl,if_true] at hk ⊢;exact ⟨.normal,st',ι',rfl,hk,hrel⟩
   ·simp only [if_neg hi,show Nat.beq i id=false by rw [Bool.eq_false_iff];intro h';exact hi (Nat.eq_of_beq_eq_true h')] at hk ⊢;exact ⟨.exit i,st',ι',rfl,hk,hrel⟩
  |ret=>exact ⟨.ret,st',ι',rfl,hk,hrel⟩
 |exit id=>intro st K h n old bs w0 a W ι hr;exact wpIn_exit ⟨.exit id,st,ι,rfl,h,hr⟩
 |ret=>intro st K h n old bs w0 a W ι hr;exact wpIn_ret ⟨.ret,st,ι,rfl,h,hr⟩
 |loop x ih=>intro st K h;unfold go OkC at h;exact h
 |rangeFunc f ps as body _ _=>intro st K h;unfold go OkC at h;exact h
 |scope body _=>intro st K h;unfold go OkC at h;exact h
 |label l=>intro st K h;unfold go OkC at h;exact h
 |goto l=>intro st K h;unfold go OkC at h;exact h
 |refuse w=>intro st K h;unfold go OkC at h;exact h
end
end Go.Nv
end
