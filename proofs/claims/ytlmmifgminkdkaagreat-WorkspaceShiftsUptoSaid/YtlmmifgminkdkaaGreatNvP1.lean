set_option linter.all false
set_option maxRecDepth 100000
section
namespace Nw
def bvl(l:List UInt8):Nat:=l.foldl (fun n b=>n*256+b.toNat) 0
def bv(s:ByteArray):Nat:=bvl s.data.toList
theorem qlf(l:List UInt8): ∀a:Nat,l.foldl (fun n b=>n*256+b.toNat) a=a*256^l.length+bvl l:=by
 induction l with
 |nil=>intro a;simp [bvl]
 |cons x l ih=>
  intro a
  have h1:=ih (a*256+x.toNat)
  have h2:=ih (0*256+x.toNat)
  simp only [bvl,List.foldl_cons,List.length_cons]
  rw [h1,h2]
  simp only [Nat.pow_succ]
  grind
theorem qeu(x:UInt8)(l:List UInt8):bvl (x::l)=x.toNat*256^l.length+bvl l:=by
 have:=qlf l (0*256+x.toNat)
 simpa [bvl] using this
theorem qiN(a b:List UInt8):bvl (a++b)=bvl a*256^b.length+bvl b:=by
 unfold bvl
 rw [List.foldl_append]
 exact qlf b _
theorem qb8(a:List UInt8)(x:UInt8):bvl (a++ [x])=bvl a*256+x.toNat:=by
 simp [bvl,List.foldl_append]
theorem qaV(l:List UInt8):bvl l<256^l.length:=by
 induction l with
 |nil=>simp [bvl]
 |cons x l ih=>
  rw [qeu,List.length_cons,Nat.pow_succ]
  have:=x.toNat_lt
  have h:x.toNat*256^l.length<=255*256^l.length:=Nat.mul_le_mul_right _ (by omega)
  omega
def dig:Nat->Nat->List UInt8
 |0,_=> []
 |k+1,n=>if n=0 then [] else dig k (n/256)++ [UInt8.ofNat (n%256)]
def nbl(n:Nat):List UInt8:=dig (n.log2+1) n
def nb(n:Nat):ByteArray:=⟨(nbl n).toArray⟩
theorem qm8(k:Nat): ∀n,n<256^k-> ∀j,dig (k+j) n=dig k n:=by
 induction k with
 |zero=>
  intro n h j
  have:n=0:=by simpa using h
  subst this
  cases j with
  |zero=>rfl
  |succ j=>simp [dig]
 |succ k ih=>
  intro n h j
  rw [show k+1+j=(k+j)+1 from by omega]
  simp only [dig]
  split
  ·rfl
  ·rw [ih (n/256) (by rw [Nat.pow_succ] at h;omega) j]
theorem qus(n:Nat):n<256^(n.log2+1):=by
 have h:n<2^(n.log2+1):=Nat.lt_log2_self
 exact Nat.lt_of_lt_of_le h (Nat.pow_le_pow_left (by omega) _)
theorem qA6{k n:Nat}(h:n<256^k):dig k n=nbl n:=by
 have h1:=qm8 k n h (n.log2+1)
 have h2:=qm8 (n.log2+1) n (qus n) k
 rw [<-h1,Nat.add_comm,h2];rfl
theorem qaP:nbl 0= [] :=by simp [nbl,dig]
theorem qbL{n:Nat}(h:n≠0):nbl n=nbl (n/256)++ [UInt8.ofNat (n%256)] :=by
 have:nbl n=dig (n.log2+1) n:=rfl
 rw [this]
 simp only [dig,if_neg h]
 rw [qA6]
 have:=qus n
 rw [Nat.pow_succ] at this
 omega
theorem qct(n:Nat):bvl (nbl n)=n:=by
 induction n using Nat.strongRecOn with
 |ind n ih=>
  by_cases h:n=0
  ·subst h;simp [qaP,bvl]
  ·rw [qbL h,qb8,ih (n/256) (by omega)]
   have:(UInt8.ofNat (n%256)).toNat=n%256:=by simp
   rw [this];omega
theorem qhn(m:Nat)(x:UInt8)(h:m≠0\/x≠0):nbl (m*256+x.toNat)=nbl m++ [x] :=by
 have hx:=x.toNat_lt
 have h0:m*256+x.toNat≠0:=by
  rcases h with h|h
  ·omega
  ·have:x.toNat≠0:=fun e=>h (UInt8.toNat_inj.1 (by simpa using e))
   omega
 rw [qbL h0]
 have h1:(m*256+x.toNat)/256=m:=by omega
 have h2:(m*256+x.toNat)%256=x.toNat:=by omega
 rw [h1,h2];simp
theorem qgn(x:UInt8)(hx:x≠0)(l:List UInt8):nbl (bvl (x::l))=x::l:=by
 have key: ∀r:List UInt8,nbl (bvl (x::r.reverse))=x::r.reverse:=by
  intro r
  induction r with
  |nil=>
   have:=qhn 0 x (.inr hx)
   simpa [bvl,qaP] using this
  |cons y r ih=>
   have e:x::(y::r).reverse=(x::r.reverse)++ [y] :=by simp
   rw [e,qb8,qhn _ _ (.inl ?_),ih]
   rw [qeu]
   have:x.toNat≠0:=fun e=>hx (UInt8.toNat_inj.1 (by simpa using e))
   have:0<x.toNat*256^r.reverse.length:=Nat.mul_pos (by omega) (Nat.pow_pos (by omega))
   omega
 have:=key l.reverse
 simpa using this
theorem qba{n k:Nat}(h:n<256^k):(nbl n).length<=k:=by
 induction k generalizing n with
 |zero=>
  have:n=0:=by simpa using h
  subst this;simp [qaP]
 |succ k ih=>
  by_cases h0:n=0
  ·subst h0;simp [qaP]
  ·rw [qbL h0,List.length_append]
   have:=ih (n:=n/256) (by rw [Nat.pow_succ] at h;omega)
   simp;omega
theorem qiR{n:Nat}:nbl n= [] ↔n=0:=by
 constructor
 ·intro h;have:=qct n;rw [h] at this;simpa [bvl] using this.symm
 ·rintro rfl;exact qaP
theorem qbo(n:Nat):bv (nb n)=n:=by simp [bv,nb,qct]
def iv(neg:Bool)(s:ByteArray):Int:=if neg then-(bv s:Int) else (bv s:Int)
def dv(s:ByteArray):Nat:=if bv s=0 then 1 else bv s
theorem qcr(s:ByteArray):0<dv s:=by unfold dv;split<;>omega
structure RD where
 neg:Bool
 num:ByteArray
 den:ByteArray
deriving DecidableEq
def emp:ByteArray:=⟨#[]⟩
def RD.val(r:RD):Rat:=mkRat (iv r.neg r.num) (dv r.den)
def canon(q:Rat):RD:=⟨decide (q.num<0),nb q.num.natAbs,if q.den=1 then emp else nb q.den⟩
theorem qyu:bv emp=0:=rfl
theorem qgg:nb 0=emp:=by simp [nb,qaP,emp]
theorem quA{a b:Nat}(h:nb a=nb b):a=b:=by rw [<-qbo a,h,qbo]
theorem qkz{n:Nat}:nb n=emp↔n=0:=by
 constructor
 ·intro h;have:=qbo n;rw [h] at this;simpa [qyu] using this.symm
 ·rintro rfl;exact qgg
theorem qar(q:Rat):(canon q).val=q:=by
 have hd:0<q.den:=q.den_pos
 unfold RD.val canon
 simp only
 have h1:iv (decide (q.num<0)) (nb q.num.natAbs)=q.num:=by
  unfold iv
  rw [qbo]
  by_cases h:q.num<0<;>simp [h] <;>omega
 have h2:dv (if q.den=1 then emp else nb q.den)=q.den:=by
  by_cases h:q.den=1
  ·rw [if_pos h,h];rfl
  ·rw [if_neg h];unfold dv;rw [qbo,if_neg (by omega)]
 rw [h1,h2]
 exact Rat.mkRat_self q
def RD.ok(r:RD):Prop:=canon r.val=r
theorem RD.ok.ext{a b:RD}(ha:a.ok)(hb:b.ok)(h:a.val=b.val):a=b:=by
 rw [<-ha, <-hb,h]
def Bd(n:Nat)(q:Rat):Prop:=q.num.natAbs<=256^n/\q.den<=256^n
theorem qgT{a:Int}{d n:Nat}(hd:d≠0)(h1:a.natAbs<=256^n)(h2:d<=256^n):Bd n (mkRat a d):=by
 rw [<-Rat.normalize_eq_mkRat hd]
 unfold Bd
 rw [Rat.num_normalize,Rat.den_normalize]
 constructor
 ·rw [Int.natAbs_ediv_of_dvd (Int.ofNat_dvd_left.2 (Nat.gcd_dvd_left _ _))]
  exact Nat.le_trans (Nat.div_le_self _ _) h1
 ·exact Nat.le_trans (Nat.div_le_self _ _) h2
theorem Bd.mono{n m:Nat}{q:Rat}(h:Bd n q)(hm:n<=m):Bd m q:=by
 have:=Nat.pow_le_pow_right (n:=256) (by omega) hm
 exact ⟨Nat.le_trans h.1 this,Nat.le_trans h.2 this⟩
theorem Bd.neg{n:Nat}{q:Rat}(h:Bd n q):Bd n (-q):=by
 unfold Bd at*;simpa using h
theorem Bd.mul{n m:Nat}{p q:Rat}(h:Bd n p)(k:Bd m q):Bd (n+m) (p*q):=by
 rw [Rat.mul_def,Rat.normalize_eq_mkRat]
 refine qgT (Nat.mul_ne_zero p.den_nz q.den_nz) ?_ ?_
 ·rw [Int.natAbs_mul,Nat.pow_add];exact Nat.mul_le_mul h.1 k.1
 ·rw [Nat.pow_add];exact Nat.mul_le_mul h.2 k.2
theorem Bd.add{n m:Nat}{p q:Rat}(h:Bd n p)(k:Bd m q):Bd (n+m+1) (p+q):=by
 rw [Rat.add_def,Rat.normalize_eq_mkRat]
 have h1:=Nat.mul_le_mul h.1 k.2
 have h2:=Nat.mul_le_mul k.1 h.2
 have h3:=Nat.mul_le_mul h.2 k.2
 rw [<-Nat.pow_add] at h1 h3
 rw [<-Nat.pow_add,Nat.add_comm m n] at h2
 refine qgT (Nat.mul_ne_zero p.den_nz q.den_nz) ?_ ?_
 ·refine Nat.le_trans (Int.natAbs_add_le _ _) ?_
  rw [Int.natAbs_mul,Int.natAbs_mul,Int.natAbs_natCast,Int.natAbs_natCast,Nat.pow_succ]
  omega
 ·rw [Nat.pow_succ];omega
theorem Bd.sub{n m:Nat}{p q:Rat}(h:Bd n p)(k:Bd m q):Bd (n+m+1) (p-q):=by
 rw [Rat.sub_eq_add_neg];exact h.add k.neg
theorem Bd.inv{n:Nat}{q:Rat}(h:Bd n q):Bd n q⁻¹:=by
 unfold Bd
 rw [Rat.num_inv,Rat.den_inv]
 have h1:0<256^n:=Nat.pow_pos (by omega)
 by_cases h0:q.num=0
 ·rw [h0];simp;omega
 ·rw [if_neg h0,Int.natAbs_mul,Int.natAbs_sign_of_ne_zero h0];simpa using ⟨h.2,h.1⟩
theorem Bd.div{n m:Nat}{p q:Rat}(h:Bd n p)(k:Bd m q):Bd (n+m) (p/q):=by
 rw [Rat.div_def];exact h.mul k.inv
theorem qdZ(z:Int){n:Nat}(h:z.natAbs<=256^n):Bd n (z:Rat):=by
 have h1:0<256^n:=Nat.pow_pos (by omega)
 exact ⟨by simpa using h,by simp;omega⟩
theorem qbM(a b:ByteArray):(a==b)=decide (a=b):=by
 rcases a with ⟨a⟩;rcases b with ⟨b⟩
 rw [Bool.eq_iff_iff,decide_eq_true_eq]
 show (a==b)=true↔_
 simp
theorem qgs(x:UInt8)(l:List UInt8)(n:Nat)(h:n=l.length+1):(ByteArray.mk ⟨x::l⟩).extract 1 n=⟨⟨l⟩⟩:=by
 subst h
 apply ByteArray.ext
 simp [ByteArray.data_extract]
def lv:List Nat->Nat
 | [] =>0
 |x::l=>x+4294967296*lv l
def Lim(l:List Nat):Prop:= ∀x∈l,x<4294967296
def ln(n:Nat):List Nat:=if h:n=0 then [] else n%4294967296::ln (n/4294967296)
termination_by n
decreasing_by omega
theorem qaR:ln 0= [] :=by rw [ln];simp
theorem qco{n:Nat}(h:n≠0):ln n=n%4294967296::ln (n/4294967296):=by rw [ln,dif_neg h]
theorem qoI(n:Nat):lv (ln n)=n:=by
 induction n using Nat.strongRecOn with
 |ind n ih=>
  by_cases h:n=0
  ·subst h;rw [qaR];rfl
  ·rw [qco h,lv,ih _ (by omega)];omega
theorem qiD(n:Nat):Lim (ln n):=by
 induction n using Nat.strongRecOn with
 |ind n ih=>
  by_cases h:n=0
  ·subst h;rw [qaR];intro x hx;simp at hx
  ·rw [qco h]
   intro x hx
   rcases List.mem_cons.1 hx with rfl|hx
   ·omega
   ·exact ih _ (by omega) x hx
def qwe(l:List Nat):Prop:=l.getLast? ≠some 0
theorem qAk{l:List Nat}(hl:Lim l)(ht:qwe l):ln (lv l)=l:=by
 induction l with
 |nil=>rw [lv,qaR]
 |cons x l ih=>
  have hx:=hl x (List.mem_cons_self ..)
  have hl':Lim l:=fun y hy=>hl y (List.mem_cons_of_mem _ hy)
  have hne:lv (x::l)≠0:=by
   intro h0
   simp only [lv] at h0
   have hx0:x=0:=by omega
   have hl0:lv l=0:=by omega
   cases l with
   |nil=>subst hx0;exact ht rfl
   |cons y l=>
    have:ln (lv (y::l))=y::l:=ih hl' (by unfold qwe at*;simpa [List.getLast?_cons_cons] using ht)
    rw [hl0,qaR] at this
    simp at this
  rw [qco hne]
  simp only [lv]
  have h1:(x+4294967296*lv l)%4294967296=x:=by omega
  have h2:(x+4294967296*lv l)/4294967296=lv l:=by omega
  rw [h1,h2]
  congr 1
  cases l with
  |nil=>rw [lv,qaR]
  |cons y l=>exact ih hl' (by unfold qwe at*;simpa [List.getLast?_cons_cons] using ht)
theorem qhJ(a b:List Nat):lv (a++b)=lv a+4294967296^a.length*lv b:=by
 induction a with
 |nil=>simp [lv]
 |cons x a ih=>simp only [List.cons_append,lv,ih,List.length_cons,Nat.pow_succ];grind
theorem qsI{l:List Nat}(h:Lim l):lv l<4294967296^l.length:=by
 induction l with
 |nil=>simp [lv]
 |cons x l ih=>
  have h1:=h x (List.mem_cons_self ..)
  have h2:=ih fun y hy=>h y (List.mem_cons_of_mem _ hy)
  simp only [lv,List.length_cons,Nat.pow_succ]
  omega
theorem qgA(l:List Nat):lv (l++ [0])=lv l:=by rw [qhJ];simp [lv]
def dl:Nat->Nat->List Nat
 |0,_=> []
 |m+1,v=>v%4294967296::dl m (v/4294967296)
theorem dl_length(m v:Nat):(dl m v).length=m:=by induction m generalizing v<;>simp [dl, *]
theorem lim_dl(m v:Nat):Lim (dl m v):=by
 induction m generalizing v with
 |zero=>intro x hx;simp [dl] at hx
 |succ m ih=>
  intro x hx
  rcases List.mem_cons.1 hx with rfl|hx
  ·omega
  ·exact ih _ x hx
theorem lv_dl(m v:Nat):lv (dl m v)=v%4294967296^m:=by
 induction m generalizing v with
 |zero=>simp [dl,lv,Nat.mod_one]
 |succ m ih=>rw [dl,lv,ih,Nat.pow_succ,Nat.mul_comm (4294967296^m),Nat.mod_mul]
theorem dl_get{m i:Nat}(v:Nat)(h:i<m):(dl m v)[i]? =some (v/4294967296^i%4294967296):=by
 induction m generalizing i v with
 |zero=>omega
 |succ m ih=>
  cases i with
  |zero=>simp [dl]
  |succ i=>rw [dl,List.getElem?_cons_succ,ih _ (by omega),Nat.div_div_eq_div_mul,Nat.pow_succ,Nat.mul_comm 4294967296]
theorem qgu{m:Nat}{l:List Nat}(hl:l.length=m)(v:Nat)(h: ∀i,i<m->l[i]? =some (v/4294967296^i%4294967296)):l=dl m v:=by
 apply List.ext_getElem?
 intro i
 by_cases hi:i<m
 ·rw [h i hi,dl_get v hi]
 ·rw [List.getElem?_eq_none (by omega),List.getElem?_eq_none (by rw [dl_length];omega)]
theorem qw7{l:List Nat}(hl:Lim l):dl l.length (lv l)=l:=by
 induction l with
 |nil=>rfl
 |cons x l ih=>
  have hx:=hl x (List.mem_cons_self ..)
  rw [List.length_cons,dl]
  simp only [lv]
  have h1:(x+4294967296*lv l)%4294967296=x:=by omega
  have h2:(x+4294967296*lv l)/4294967296=lv l:=by omega
  rw [h1,h2,ih fun y hy=>hl y (List.mem_cons_of_mem _ hy)]
theorem dl_zero(m:Nat):dl m 0=List.replicate m 0:=by
 induction m with
 |zero=>rfl
 |succ m ih=>simp [dl,ih,List.replicate_succ]
theorem qbD{m v:Nat}(h:v<4294967296^m):(ln v).length<=m:=by
 induction m generalizing v with
 |zero=>
  have:v=0:=by simpa using h
  subst this;simp [qaR]
 |succ m ih=>
  by_cases hv:v=0
  ·subst hv;simp [qaR]
  ·rw [qco hv,List.length_cons]
   have:=ih (v:=v/4294967296) (by rw [Nat.pow_succ] at h;exact Nat.div_lt_of_lt_mul (by rw [Nat.mul_comm];exact h))
   omega
theorem qm7{m v:Nat}(h:v<4294967296^m)(h2:m≠0->4294967296^(m-1)<=v):dl m v=ln v:=by
 induction m generalizing v with
 |zero=>
  have:v=0:=by simpa using h
  subst this;simp [dl,qaR]
 |succ m ih=>
  have h2':=h2 (by omega)
  simp at h2'
  have hv:v≠0:=by have:0<4294967296^m:=Nat.pow_pos (by omega);omega
  rw [dl,qco hv]
  congr 1
  apply ih
  ·rw [Nat.pow_succ] at h;exact Nat.div_lt_of_lt_mul (by rw [Nat.mul_comm];exact h)
  ·intro hm
   rw [Nat.le_div_iff_mul_le (by omega)]
   have:4294967296^(m-1)*4294967296=4294967296^m:=by rw [<-Nat.pow_succ];congr 1;omega
   omega
theorem qkS(k:Nat):(256:Nat)^(4*k)=4294967296^k:=by rw [Nat.pow_mul]
theorem qxK{v:Nat}(h:v≠0):256^((nbl v).length-1)<=v:=by
 induction v using Nat.strongRecOn with
 |ind v ih=>
  rw [qbL h]
  by_cases h2:v/256=0
  ·rw [h2,qaP];simp;omega
  ·have:=ih (v/256) (by omega) h2
   have hl:0<(nbl (v/256)).length:=by
    rcases Nat.eq_zero_or_pos (nbl (v/256)).length with h3|h3
    ·exact absurd (qiR.1 (List.eq_nil_of_length_eq_zero h3)) h2
    ·exact h3
   simp only [List.length_append,List.length_cons,List.length_nil,Nat.zero_add,Nat.add_sub_cancel]
   have e:256^(nbl (v/256)).length=256^((nbl (v/256)).length-1)*256:=by rw [<-Nat.pow_succ];congr 1;omega
   rw [e];omega
theorem qns(v:Nat):v<256^(nbl v).length:=by
 have:=qaV (nbl v);rwa [qct] at this
theorem qAQ(v:Nat):dl (((nbl v).length+3)/4) v=ln v:=by
 refine qm7 ?_ ?_
 ·refine Nat.lt_of_lt_of_le (qns v) ?_
  rw [<-qkS]
  exact Nat.pow_le_pow_right (by omega) (by omega)
 ·intro h
  by_cases hv:v=0
  ·subst hv;simp [qaP] at h
  ·refine Nat.le_trans ?_ (qxK hv)
   rw [<-qkS]
   exact Nat.pow_le_pow_right (by omega) (by omega)
theorem qxY{m V b i:Nat}(hV:V<256^i)(hb:b<256)(hi:i<4*m):
  ∃old,(dl m V)[i/4]? =some old/\old<256^(i%4)/\old+b*256^(i%4)<4294967296/\dl m (V+b*256^i)=(dl m V).set (i/4) (old+b*256^(i%4)):=by
 have hq:i/4<m:=by omega
 have hp: ∀k,0<256^k:=fun k=>Nat.pow_pos (by omega)
 have hpB: ∀k,0<4294967296^k:=fun k=>Nat.pow_pos (by omega)
 have e1:256^i=4294967296^(i/4)*256^(i%4):=by
  rw [<-qkS, <-Nat.pow_add];congr 1;omega
 have h256:256^(i%4)*256<=4294967296:=by
  have:256^(i%4+1)<=256^4:=Nat.pow_le_pow_right (by omega) (by omega)
  rw [Nat.pow_succ] at this;exact this
 have hold:V/4294967296^(i/4)<256^(i%4):=by
  rw [Nat.div_lt_iff_lt_mul (hpB _),Nat.mul_comm, <-e1];exact hV
 have hbm:b*256^(i%4)+256^(i%4)<=4294967296:=by
  have:=Nat.mul_le_mul_right (256^(i%4)) (show b+1<=256 by omega)
  rw [Nat.add_mul,Nat.mul_comm 256] at this;omega
 refine ⟨V/4294967296^(i/4), ?_,hold,by omega, ?_⟩
 ·rw [dl_get V hq,Nat.mod_eq_of_lt (by omega)]
 ·symm
  refine qgu (by simp [dl_length]) _ fun j hj=> ?_
  rw [List.getElem?_set]
  by_cases hji:i/4=j
  ·subst hji
   rw [if_pos rfl,if_pos (by rw [dl_length];exact hj)]
   congr 1
   have:b*256^i=(b*256^(i%4))*4294967296^(i/4):=by rw [e1];grind
   rw [this,Nat.add_mul_div_right _ _ (hpB _)]
   exact (Nat.mod_eq_of_lt (by omega)).symm
  ·rw [if_neg hji,dl_get V hj]
   congr 1
   rcases Nat.lt_or_ge j (i/4) with hlt|hge
   ·obtain ⟨d,hd⟩: ∃d,i/4=j+1+d:=⟨i/4-j-1,by omega⟩
    have:b*256^i=(b*256^(i%4)*4294967296^d*4294967296)*4294967296^j:=by
     rw [e1,hd,Nat.pow_add,Nat.pow_add];simp only [Nat.pow_one];grind
    rw [this,Nat.add_mul_div_right _ _ (hpB _),Nat.add_mul_mod_self_right]
   ·have hlt:V+b*256^i<4294967296^j:=by
     have h1:256^(i+1)<=4294967296^j:=by rw [<-qkS];exact Nat.pow_le_pow_right (by omega) (by omega)
     rw [Nat.pow_succ] at h1
     have:=Nat.mul_le_mul_right (256^i) (show b+1<=256 by omega)
     rw [Nat.add_mul,Nat.mul_comm 256] at this
     omega
    rw [Nat.div_eq_of_lt hlt,Nat.div_eq_of_lt (show V<4294967296^j by omega)]
theorem qsG(l:List UInt8)(i:Nat)(h:i<l.length): ∃x:UInt8,l[l.length-1-i]? =some x/\bvl l/256^i%256=x.toNat:=by
 obtain ⟨a,b,x,rfl,hb⟩: ∃a b x,l=a++x::b/\b.length=i:=by
  refine ⟨l.take (l.length-1-i),l.drop (l.length-i),l[l.length-1-i], ?_,by simp;omega⟩
  have h1:l.length-i=(l.length-1-i)+1:=by omega
  rw [h1]
  rw [<-List.drop_eq_getElem_cons (by omega)];simp
 refine ⟨x, ?_, ?_⟩
 ·rw [List.getElem?_append_right (by simp;omega)]
  simp [hb]
 ·rw [show a++x::b=(a++ [x])++b by simp,qiN,hb]
  have hlt:=qaV b
  rw [hb] at hlt
  rw [Nat.mul_comm,Nat.mul_add_div (Nat.pow_pos (by omega)),Nat.div_eq_of_lt hlt,Nat.add_zero,qb8]
  have:=x.toNat_lt
  omega
theorem qtz(v i:Nat):v%256^(i+1)=v%256^i+(v/256^i%256)*256^i:=by
 rw [Nat.pow_succ,Nat.mod_mul,Nat.mul_comm (256^i)]
theorem qy8{a b k:Nat}(h:a<2^k):b<<<k|||a=a+b*2^k:=by
 rw [<-Nat.shiftLeft_add_eq_or_of_lt h,Nat.shiftLeft_eq];omega
end Nw
end
section
namespace Nw
theorem qvM(a:Nat):dl (ln a).length a=ln a:=by
 have:=qw7 (qiD a);rwa [qoI] at this
theorem qtS{a i:Nat}(h:i<(ln a).length):(ln a)[i]? =some (a/4294967296^i%4294967296):=by
 have:=dl_get (m:=(ln a).length) a h
 rwa [qvM] at this
theorem qay(a:Nat):a<4294967296^(ln a).length:=by
 have:=qsI (qiD a);rwa [qoI] at this
theorem qmA{a:Nat}(h:a≠0):4294967296^((ln a).length-1)<=a:=by
 induction a using Nat.strongRecOn with
 |ind a ih=>
  rw [qco h,List.length_cons,Nat.add_sub_cancel]
  by_cases h2:a/4294967296=0
  ·rw [h2,qaR];simp;omega
  ·have:=ih (a/4294967296) (by omega) h2
   have hl:0<(ln (a/4294967296)).length:=by
    rcases Nat.eq_zero_or_pos (ln (a/4294967296)).length with h3|h3
    ·have:=qco h2
     rw [List.eq_nil_of_length_eq_zero h3] at this;simp at this
    ·exact h3
   have e:4294967296^(ln (a/4294967296)).length=4294967296^((ln (a/4294967296)).length-1)*4294967296:=by rw [<-Nat.pow_succ];congr 1;omega
   rw [e];omega
theorem qek{a b:Nat}(h:(ln a).length<(ln b).length):a<b:=by
 have h1:=qay a
 have hb:b≠0:=by intro h0;subst h0;simp [qaR] at h
 have h2:=qmA hb
 have h3:4294967296^(ln a).length<=4294967296^((ln b).length-1):=Nat.pow_le_pow_right (by omega) (by omega)
 omega
theorem qa1{a b:Nat}(h:a<=b):(ln a).length<=(ln b).length:=by
 rcases Nat.lt_or_ge (ln b).length (ln a).length with h1|h1
 ·have:=qek h1;omega
 ·exact h1
theorem qbP{a:Nat}:(ln a).length=0↔a=0:=by
 constructor
 ·intro h
  rcases Nat.eq_zero_or_pos a with h0|h0
  ·exact h0
  ·have:=qco (n:=a) (by omega)
   rw [this] at h;simp at h
 ·rintro rfl;simp [qaR]
theorem qlb{v k:Nat}(h:v<256^k):(ln v).length<=(k+3)/4:=by
 apply qbD
 refine Nat.lt_of_lt_of_le h ?_
 rw [<-qkS];exact Nat.pow_le_pow_right (by omega) (by omega)
theorem qbj(a k:Nat):a/4294967296^k=(a/4294967296^(k+1))*4294967296+a/4294967296^k%4294967296:=by
 rw [Nat.pow_succ, <-Nat.div_div_eq_div_mul];omega
theorem qgl{a b k:Nat}(h:a/4294967296^k<b/4294967296^k):a<b:=by
 rcases Nat.lt_or_ge a b with h1|h1
 ·exact h1
 ·have:=Nat.div_le_div_right (c:=4294967296^k) h1;omega
theorem qrJ{a b k:Nat}(h:a/4294967296^(k+1)=b/4294967296^(k+1))(h2:a/4294967296^k%4294967296<b/4294967296^k%4294967296):a<b:=by
 apply qgl (k:=k)
 rw [qbj a,qbj b,h];omega
theorem qrL{a b k:Nat}(h:a/4294967296^(k+1)=b/4294967296^(k+1))(h2:a/4294967296^k%4294967296=b/4294967296^k%4294967296):a/4294967296^k=b/4294967296^k:=by
 rw [qbj a,qbj b,h];omega
def qcE(a b:Nat):Int:=if a<b then-1 else if b<a then 1 else 0
end Nw
namespace Nw
theorem qeV(m v:Nat):dl (m+1) v=dl m v++ [v/4294967296^m%4294967296] :=by
 symm
 refine qgu (by simp [dl_length]) v fun i hi=> ?_
 rcases Nat.lt_or_ge i m with h|h
 ·rw [List.getElem?_append_left (by rw [dl_length];exact h),dl_get v h]
 ·have:i=m:=by omega
  subst this
  rw [List.getElem?_append_right (by rw [dl_length];exact Nat.le_refl _),dl_length];simp
theorem qbc(a i:Nat):a%4294967296^(i+1)=a%4294967296^i+4294967296^i*(a/4294967296^i%4294967296):=by
 rw [Nat.pow_succ,Nat.mod_mul]
def car(a b i:Nat):Nat:=(a%4294967296^i+b%4294967296^i)/4294967296^i
theorem car_le(a b i:Nat):car a b i<=1:=by
 have h:0<4294967296^i:=Nat.pow_pos (by omega)
 have h1:=Nat.mod_lt a h
 have h2:=Nat.mod_lt b h
 unfold car
 have:(a%4294967296^i+b%4294967296^i)/4294967296^i<2:=by
  rw [Nat.div_lt_iff_lt_mul h];omega
 omega
theorem car_step(a b i:Nat):(car a b i+a/4294967296^i%4294967296+b/4294967296^i%4294967296)%4294967296=(a+b)/4294967296^i%4294967296/\
  (car a b i+a/4294967296^i%4294967296+b/4294967296^i%4294967296)/4294967296=car a b (i+1):=by
 have h:0<4294967296^i:=Nat.pow_pos (by omega)
 constructor
 ·have e:(a+b)/4294967296^i=car a b i+(a/4294967296^i+b/4294967296^i):=by
   unfold car
   have:a+b=(a%4294967296^i+b%4294967296^i)+4294967296^i*(a/4294967296^i+b/4294967296^i):=by
    rw [Nat.mul_add]
    have h1:=Nat.mod_add_div a (4294967296^i)
    have h2:=Nat.mod_add_div b (4294967296^i)
    omega
   conv=>lhs;rw [this]
   rw [Nat.add_mul_div_left _ _ h]
  rw [e];omega
 ·unfold car
  rw [qbc a,qbc b,Nat.pow_succ, <-Nat.div_div_eq_div_mul]
  have:a%4294967296^i+4294967296^i*(a/4294967296^i%4294967296)+(b%4294967296^i+4294967296^i*(b/4294967296^i%4294967296))=
   (a%4294967296^i+b%4294967296^i)+4294967296^i*(a/4294967296^i%4294967296+b/4294967296^i%4294967296):=by rw [Nat.mul_add];omega
  rw [this,Nat.add_mul_div_left _ _ h,Nat.add_assoc]
theorem qcj{b i:Nat}(h:(ln b).length<=i):b/4294967296^i=0:=
 Nat.div_eq_of_lt (Nat.lt_of_lt_of_le (qay b) (Nat.pow_le_pow_right (by omega) h))
end Nw
end
section
namespace Nw
theorem qbZ(i:Nat):0<4294967296^i:=Nat.pow_pos (by omega)
def bor(a b i:Nat):Nat:=if a%4294967296^i<b%4294967296^i then 1 else 0
theorem sub_dig(a b i:Nat)(h:b<=a):((a/4294967296^i%4294967296:Nat)-(b/4294967296^i%4294967296:Nat)-(bor a b i:Nat):Int)%4294967296=((a-b)/4294967296^i%4294967296:Nat):=by
 have hp:=qbZ i
 have e:((a-b)/4294967296^i:Nat)+b/4294967296^i+bor a b i=a/4294967296^i:=by
  have h1:=Nat.mod_add_div a (4294967296^i)
  have h2:=Nat.mod_add_div b (4294967296^i)
  have l1:=Nat.mod_lt a hp
  have l2:=Nat.mod_lt b hp
  have hle:b/4294967296^i<=a/4294967296^i:=Nat.div_le_div_right h
  unfold bor
  generalize 4294967296^i=p at*
  split
  ·rename_i hlt
   have hlt2:b/p<a/p:=by
    rcases Nat.lt_or_ge (b/p) (a/p) with h3|h3
    ·exact h3
    ·have:a/p=b/p:=by omega
     rw [this] at h1
     omega
   obtain ⟨d,hd⟩: ∃d,a/p=b/p+1+d:=⟨a/p-b/p-1,by omega⟩
   have:(a-b)/p=d:=by
    rw [Nat.div_eq_of_lt_le]
    ·have:p*(a/p)=p*(b/p)+p+p*d:=by rw [hd,Nat.mul_add,Nat.mul_add,Nat.mul_one]
     rw [Nat.mul_comm];omega
    ·have:p*(a/p)=p*(b/p)+p+p*d:=by rw [hd,Nat.mul_add,Nat.mul_add,Nat.mul_one]
     rw [Nat.mul_comm,Nat.mul_add,Nat.mul_one];omega
   omega
  ·rename_i hge
   obtain ⟨d,hd⟩: ∃d,a/p=b/p+d:=⟨a/p-b/p,by omega⟩
   have:(a-b)/p=d:=by
    rw [Nat.div_eq_of_lt_le]
    ·have:p*(a/p)=p*(b/p)+p*d:=by rw [hd,Nat.mul_add]
     rw [Nat.mul_comm];omega
    ·have:p*(a/p)=p*(b/p)+p*d:=by rw [hd,Nat.mul_add]
     rw [Nat.mul_comm,Nat.mul_add,Nat.mul_one];omega
   omega
 omega
theorem bor_step(a b i:Nat):bor a b (i+1)=if a/4294967296^i%4294967296<b/4294967296^i%4294967296+bor a b i then 1 else 0:=by
 have hp:=qbZ i
 have l1:=Nat.mod_lt a hp
 have l2:=Nat.mod_lt b hp
 unfold bor
 rw [qbc a,qbc b]
 generalize a/4294967296^i%4294967296=x
 generalize b/4294967296^i%4294967296=y
 generalize 4294967296^i=p at*
 generalize a%p=r at*
 generalize b%p=s at*
 have key: ∀u v:Nat,u<v->p*u+p<=p*v:=fun u v h=>by have:=Nat.mul_le_mul_left p (show u+1<=v by omega);rw [Nat.mul_add] at this;omega
 by_cases h1:r<s
 ·rw [if_pos h1]
  by_cases h2:x<y+1
  ·rw [if_pos h2,if_pos]
   have:=Nat.mul_le_mul_left p (show x<=y by omega);omega
  ·rw [if_neg h2,if_neg]
   have:=key y x (by omega);omega
 ·rw [if_neg h1]
  by_cases h2:x<y+0
  ·rw [if_pos h2,if_pos]
   have:=key x y (by omega);omega
  ·rw [if_neg h2,if_neg]
   have:=Nat.mul_le_mul_left p (show y<=x by omega);omega
theorem bor_le(a b i:Nat):bor a b i=0\/bor a b i=1:=by unfold bor;split<;>simp
theorem qjQ(a b:Nat):bor a b 0=0:=by simp [bor,Nat.mod_one]
theorem dl_mod_set{m i:Nat}(v:Nat)(hi:i<m):(dl m (v%4294967296^i)).set i (v/4294967296^i%4294967296)=dl m (v%4294967296^(i+1)):=by
 refine qgu (by simp [dl_length]) _ fun j hj=> ?_
 rw [List.getElem?_set]
 by_cases h:i=j
 ·subst h
  rw [if_pos rfl,if_pos (by rw [dl_length];exact hj),qbc,Nat.add_mul_div_left _ _ (qbZ i),Nat.div_eq_of_lt (Nat.mod_lt _ (qbZ i))]
  simp
 ·rw [if_neg h,dl_get _ hj]
  congr 1
  rcases Nat.lt_or_ge j i with h1|h1
  ·have e: ∀k,j<k->v%4294967296^k/4294967296^j%4294967296=v/4294967296^j%4294967296:=by
    intro k hk
    have h2:4294967296^k=4294967296^j*4294967296^(k-j):=by rw [<-Nat.pow_add];congr 1;omega
    rw [h2,Nat.mod_mul_right_div_self]
    have h3:4294967296^(k-j)=4294967296*4294967296^(k-j-1):=by rw [<-Nat.pow_succ'];congr 1;omega
    rw [h3,Nat.mod_mul_right_mod]
   rw [e i h1,e (i+1) (by omega)]
  ·have h2:4294967296^(i+1)<=4294967296^j:=Nat.pow_le_pow_right (by omega) (by omega)
   have h3:4294967296^i<=4294967296^j:=Nat.pow_le_pow_right (by omega) (by omega)
   rw [Nat.div_eq_of_lt (Nat.lt_of_lt_of_le (Nat.mod_lt _ (qbZ i)) h3),Nat.div_eq_of_lt (Nat.lt_of_lt_of_le (Nat.mod_lt _ (qbZ (i+1))) h2)]
end Nw
end
section
namespace Nw
theorem qhX(lo hi p j:Nat)(hj:j<p):(lo+hi*4294967296^p)/4294967296^j%4294967296=lo/4294967296^j%4294967296:=by
 obtain ⟨d,hd⟩: ∃d,p=j+1+d:=⟨p-j-1,by omega⟩
 have e:hi*4294967296^p=hi*4294967296^d*4294967296*4294967296^j:=by
  rw [hd,Nat.pow_add,Nat.pow_add];simp only [Nat.pow_one];grind
 rw [e,Nat.add_mul_div_right _ _ (qbZ j),Nat.add_mul_mod_self_right]
theorem dl_set{m p d:Nat}(R:Nat)(hd:d<4294967296):(dl m R).set p d=dl m (R%4294967296^p+(d+R/4294967296^(p+1)*4294967296)*4294967296^p):=by
 refine qgu (by simp [dl_length]) _ fun j hj=> ?_
 have hr:=Nat.mod_lt R (qbZ p)
 rw [List.getElem?_set]
 by_cases h:p=j
 ·subst h
  rw [if_pos rfl,if_pos (by rw [dl_length];exact hj)]
  congr 1
  rw [Nat.add_mul_div_right _ _ (qbZ p),Nat.div_eq_of_lt hr];omega
 ·rw [if_neg h,dl_get _ hj]
  congr 1
  rcases Nat.lt_or_ge j p with h1|h1
  ·rw [qhX _ _ _ _ h1]
   have:R=R%4294967296^p+R/4294967296^p*4294967296^p:=by rw [Nat.mul_comm,Nat.mod_add_div]
   conv=>lhs;rw [this]
   rw [qhX _ _ _ _ h1]
  ·obtain ⟨e,he⟩: ∃e,j=p+1+e:=⟨j-p-1,by omega⟩
   have e1:(R%4294967296^p+(d+R/4294967296^(p+1)*4294967296)*4294967296^p)/4294967296^(p+1)=R/4294967296^(p+1):=by
    rw [Nat.pow_succ, <-Nat.div_div_eq_div_mul, <-Nat.div_div_eq_div_mul,Nat.add_mul_div_right _ _ (qbZ p),Nat.div_eq_of_lt hr];omega
   rw [he,Nat.pow_add, <-Nat.div_div_eq_div_mul, <-Nat.div_div_eq_div_mul,e1]
section
variable (a b i x:Nat)
def tU(T x b i k:Nat):Nat:=T%4294967296^(i+k)+x*(b%4294967296^k)*4294967296^i
def tR(T x b i k:Nat):Nat:=tU T x b i k%4294967296^(i+k)+T/4294967296^(i+k)*4294967296^(i+k)
def tC(T x b i k:Nat):Nat:=tU T x b i k/4294967296^(i+k)
theorem tC_lt{T x b i k:Nat}(hx:x<4294967296):tC T x b i k<4294967296:=by
 unfold tC tU
 rw [Nat.div_lt_iff_lt_mul (qbZ _)]
 have h1:=Nat.mod_lt T (qbZ (i+k))
 have h2:=Nat.mod_lt b (qbZ k)
 have h3:x*(b%4294967296^k)<=4294967295*4294967296^k:=Nat.mul_le_mul (by omega) (by omega)
 have h4:=Nat.mul_le_mul_right (4294967296^i) h3
 have e:4294967295*4294967296^k*4294967296^i=4294967295*4294967296^(i+k):=by rw [Nat.pow_add];grind
 omega
theorem qlq(T x b i k:Nat):tU T x b i (k+1)=tU T x b i k+(T/4294967296^(i+k)%4294967296+x*(b/4294967296^k%4294967296))*4294967296^(i+k):=by
 unfold tU
 rw [show i+(k+1)=i+k+1 from rfl,qbc T,qbc b]
 have e:4294967296^(i+k)=4294967296^i*4294967296^k:=Nat.pow_add ..
 rw [e];grind
theorem t_dig(T x b i k:Nat):tR T x b i k/4294967296^(i+k)=T/4294967296^(i+k):=by
 unfold tR
 rw [Nat.add_mul_div_right _ _ (qbZ _),Nat.div_eq_of_lt (Nat.mod_lt _ (qbZ _))];omega
theorem t_step(T x b i k:Nat):(tC T x b i k+(x*(b/4294967296^k%4294967296)+T/4294967296^(i+k)%4294967296))/4294967296=tC T x b i (k+1)/\
  tR T x b i (k+1)=tR T x b i k%4294967296^(i+k)+((tC T x b i k+(x*(b/4294967296^k%4294967296)+T/4294967296^(i+k)%4294967296))%4294967296+tR T x b i k/4294967296^(i+k+1)*4294967296)*4294967296^(i+k):=by
 have hU:=qlq T x b i k
 have hp:=qbZ (i+k)
 have eU:tU T x b i (k+1)/4294967296^(i+k)=tC T x b i k+(x*(b/4294967296^k%4294967296)+T/4294967296^(i+k)%4294967296):=by
  rw [hU,Nat.add_mul_div_right _ _ hp];unfold tC;omega
 have eM:tU T x b i (k+1)%4294967296^(i+k)=tU T x b i k%4294967296^(i+k):=by rw [hU,Nat.add_mul_mod_self_right]
 constructor
 ·rw [<-eU]
  unfold tC
  rw [show i+(k+1)=i+k+1 from rfl,Nat.pow_succ, <-Nat.div_div_eq_div_mul]
 ·have hR:=t_dig T x b i k
  have e1:tR T x b i k/4294967296^(i+k+1)=T/4294967296^(i+k+1):=by
   rw [Nat.pow_succ, <-Nat.div_div_eq_div_mul, <-Nat.div_div_eq_div_mul,hR]
  have e2:tR T x b i k%4294967296^(i+k)=tU T x b i k%4294967296^(i+k):=by
   unfold tR;rw [Nat.add_mul_mod_self_right,Nat.mod_mod]
  rw [e1,e2, <-eU, <-eM]
  conv=>lhs;unfold tR
  rw [show i+(k+1)=i+k+1 from rfl,qbc (tU T x b i (k+1)) (i+k),Nat.pow_succ]
  generalize 4294967296^(i+k)=p
  grind
theorem tR_zero(T x b i:Nat):tR T x b i 0=T:=by
 unfold tR tU
 simp only [Nat.add_zero,Nat.pow_zero,Nat.mod_one,Nat.mul_zero,Nat.zero_mul,Nat.mod_mod]
 rw [Nat.mul_comm,Nat.mod_add_div]
theorem tC_zero(T x b i:Nat):tC T x b i 0=0:=by
 unfold tC tU
 simp only [Nat.add_zero,Nat.pow_zero,Nat.mod_one,Nat.mul_zero,Nat.zero_mul]
 exact Nat.div_eq_of_lt (Nat.mod_lt _ (qbZ i))
theorem t_end{a b i n:Nat}(hb:b<4294967296^n):
  let T:=(a%4294967296^i)*b
  let x:=a/4294967296^i%4294967296
  tR T x b i n%4294967296^(i+n)+(tC T x b i n+tR T x b i n/4294967296^(i+n+1)*4294967296)*4294967296^(i+n)=(a%4294967296^(i+1))*b:=by
 intro T x
 have hT:T<4294967296^(i+n):=by
  rw [Nat.pow_add]
  exact Nat.mul_lt_mul'' (Nat.mod_lt _ (qbZ i)) hb
 have e0:tR T x b i n/4294967296^(i+n+1)=0:=by
  rw [Nat.pow_succ, <-Nat.div_div_eq_div_mul,t_dig,Nat.div_eq_of_lt hT]
 have e2:tR T x b i n%4294967296^(i+n)=tU T x b i n%4294967296^(i+n):=by
  unfold tR;rw [Nat.add_mul_mod_self_right,Nat.mod_mod]
 rw [e0,e2,Nat.zero_mul,Nat.add_zero]
 unfold tC
 rw [Nat.mul_comm (_/_),Nat.mod_add_div]
 unfold tU
 rw [Nat.mod_eq_of_lt hT,Nat.mod_eq_of_lt hb,qbc a]
 show (a%4294967296^i)*b+x*b*4294967296^i=(a%4294967296^i+4294967296^i*x)*b
 grind
end
end Nw
end
section
namespace Nw
theorem qoi(a d j:Nat)(hd:0<d):let x:=a/4294967296^j%4294967296
  ((a/4294967296^(j+1)%d)*4294967296+x)%d=a/4294967296^j%d/\
  a/4294967296^j/d=a/4294967296^(j+1)/d*4294967296+((a/4294967296^(j+1)%d)*4294967296+x)/d:=by
 intro x
 have h:=qbj a j
 have e:a/4294967296^j=(a/4294967296^(j+1)/d*4294967296)*d+((a/4294967296^(j+1)%d)*4294967296+x):=by
  have:=Nat.mod_add_div (a/4294967296^(j+1)) d
  conv=>lhs;rw [h, <-this]
  show _+x=_
  grind
 constructor
 ·conv=>rhs;rw [e]
  rw [Nat.mul_comm _ d,Nat.mul_add_mod]
 ·conv=>lhs;rw [e]
  rw [Nat.mul_comm _ d,Nat.mul_add_div hd]
theorem qvb{m j Q q:Nat}(hq:q<4294967296):(dl m (Q*4294967296^(j+1))).set j q=dl m ((Q*4294967296+q)*4294967296^j):=by
 rw [dl_set _ hq]
 congr 1
 have e:Q*4294967296^(j+1)=Q*4294967296*4294967296^j:=by rw [Nat.pow_succ];grind
 rw [Nat.mul_div_cancel _ (qbZ _),e,Nat.mul_mod_left]
 grind
theorem two32{n:Nat}(hn:n<=32):4294967296=2^(32-n)*2^n:=by rw [<-Nat.pow_add,show 32-n+n=32 by omega]
theorem qoa{a n i m:Nat}(hn:n<=31)(hi:i+1<m):
  let R:=(a%4294967296^i)*2^n
  let x:=a/4294967296^i%4294967296
  R/4294967296^i<2^n/\(dl m R)[i]? =some (R/4294967296^i)/\x*2^n%4294967296=(x%2^(32-n))*2^n/\R/4294967296^i+(x%2^(32-n))*2^n<4294967296/\x*2^n/4294967296<4294967296/\
  ((dl m R).set i (R/4294967296^i+(x%2^(32-n))*2^n)).set (i+1) (x*2^n/4294967296)=dl m ((a%4294967296^(i+1))*2^n):=by
 intro R x
 have hp:=qbZ i
 have hx:x<4294967296:=Nat.mod_lt _ (by omega)
 have h2:0<2^n:=Nat.pow_pos (by omega)
 have h2':2^n<=2^31:=Nat.pow_le_pow_right (by omega) hn
 have h232:=two32 (n:=n) (by omega)
 have hr0:R<4294967296^i*2^n:=Nat.mul_lt_mul_of_pos_right (Nat.mod_lt _ hp) h2
 have hr:R/4294967296^i<2^n:=by rw [Nat.div_lt_iff_lt_mul hp,Nat.mul_comm];exact hr0
 have hm:x*2^n%4294967296=(x%2^(32-n))*2^n:=by
  conv=>lhs;rw [h232]
  rw [Nat.mul_mod_mul_right]
 have hb:R/4294967296^i+(x%2^(32-n))*2^n<4294967296:=by
  have h3:=Nat.mod_lt x (show 0<2^(32-n) from Nat.pow_pos (by omega))
  have h4:=Nat.mul_le_mul_right (2^n) (show x%2^(32-n)+1<=2^(32-n) by omega)
  rw [<-h232,Nat.add_mul] at h4
  omega
 have hy:x*2^n/4294967296<4294967296:=by
  rw [Nat.div_lt_iff_lt_mul (by omega)]
  exact Nat.mul_lt_mul'' hx (by omega)
 refine ⟨hr, ?_,hm,hb,hy, ?_⟩
 ·rw [dl_get R (by omega),Nat.mod_eq_of_lt (by omega)]
 ·have e0:R/4294967296^(i+1)=0:=by
   rw [Nat.pow_succ, <-Nat.div_div_eq_div_mul,Nat.div_eq_of_lt (by omega)]
  rw [dl_set R hb,e0,Nat.zero_mul,Nat.add_zero]
  generalize hR':R%4294967296^i+(R/4294967296^i+(x%2^(32-n))*2^n)*4294967296^i=R'
  have hlt:R'<4294967296^(i+1):=by
   rw [<-hR',Nat.pow_succ]
   have h3:=Nat.mod_lt R hp
   have h4:=Nat.mul_le_mul_right (4294967296^i) (show (R/4294967296^i+(x%2^(32-n))*2^n)+1<=4294967296 by omega)
   rw [Nat.add_mul,Nat.one_mul,Nat.mul_comm 4294967296] at h4
   omega
  rw [dl_set R' hy]
  have e1:R'/4294967296^(i+1+1)=0:=Nat.div_eq_of_lt (Nat.lt_of_lt_of_le hlt (Nat.pow_le_pow_right (by omega) (by omega)))
  rw [e1,Nat.mod_eq_of_lt hlt,Nat.zero_mul,Nat.add_zero, <-hR', <-hm]
  congr 1
  have hR:R%4294967296^i+(R/4294967296^i)*4294967296^i=R:=by rw [Nat.mul_comm,Nat.mod_add_div]
  have hxx:x*2^n%4294967296+4294967296*(x*2^n/4294967296)=x*2^n:=Nat.mod_add_div _ _
  have hA:a%4294967296^(i+1)*2^n=R+x*2^n*4294967296^i:=by
   rw [qbc,Nat.add_mul]
   show R+4294967296^i*x*2^n=_
   grind
  rw [hA,Nat.pow_succ]
  generalize 4294967296^i=p at*
  grind
theorem qw0(r n i:Nat)(hn:n<=31):(r/2^n)/4294967296^i%4294967296=(r/4294967296^i%4294967296+r/4294967296^(i+1)%4294967296*4294967296)/2^n%4294967296:=by
 rw [Nat.div_div_eq_div_mul,Nat.mul_comm, <-Nat.div_div_eq_div_mul,Nat.pow_succ, <-Nat.div_div_eq_div_mul]
 generalize r/4294967296^i=y
 have h2:0<2^n:=Nat.pow_pos (by omega)
 have h232:=two32 (n:=n) (by omega)
 have e:y=(y%4294967296+y/4294967296%4294967296*4294967296)+4294967296*4294967296*(y/4294967296/4294967296):=by omega
 have e2:4294967296*4294967296*(y/4294967296/4294967296)=2^n*(4294967296*(2^(32-n)*(y/4294967296/4294967296))):=by
  conv=>lhs;rw [Nat.mul_assoc];arg 1;rw [h232]
  generalize y/4294967296/4294967296=z
  grind
 conv=>lhs;rw [e,e2,Nat.add_mul_div_left _ _ h2,Nat.add_mul_mod_self_left]
theorem qs2{S V k:Nat}(hV:V<4294967296^k)(hk:1<=k)(hn:2147483648*4294967296^(k-1)<=V)(hS:S<V*4294967296):
  2147483648<=V/4294967296^(k-1)/\V/4294967296^(k-1)<4294967296/\S/V<4294967296/\S/4294967296^(k-1)<(S/V+1)*(V/4294967296^(k-1)+1)/\S/V*(V/4294967296^(k-1))<=S/4294967296^(k-1)/\S/4294967296^(k-1)<18446744073709551616:=by
 have hp:=qbZ (k-1)
 have hkk:4294967296^k=4294967296*4294967296^(k-1):=by rw [<-Nat.pow_succ'];congr 1;omega
 have hV0:0<V:=by
  rcases Nat.eq_zero_or_pos V with h|h
  ·subst h;simp at hS
  ·exact h
 have a1:2147483648<=V/4294967296^(k-1):=by rw [Nat.le_div_iff_mul_le hp];exact hn
 have a2:V/4294967296^(k-1)<4294967296:=by rw [Nat.div_lt_iff_lt_mul hp, <-hkk];exact hV
 have a3:S/V<4294967296:=by rw [Nat.div_lt_iff_lt_mul hV0,Nat.mul_comm];exact hS
 have q1:S/V*V<=S:=Nat.div_mul_le_self S V
 have q2:S<(S/V+1)*V:=by
  have:=Nat.lt_div_mul_add (a:=S) hV0
  rw [Nat.add_mul];omega
 have v2:V/4294967296^(k-1)*4294967296^(k-1)<=V:=Nat.div_mul_le_self V _
 have v3:V<(V/4294967296^(k-1)+1)*4294967296^(k-1):=by
  have:=Nat.lt_div_mul_add (a:=V) hp
  rw [Nat.add_mul];omega
 have a4:S/4294967296^(k-1)<(S/V+1)*(V/4294967296^(k-1)+1):=by
  rw [Nat.div_lt_iff_lt_mul hp]
  have:=Nat.mul_le_mul_left (S/V+1) (Nat.le_of_lt v3)
  rw [<-Nat.mul_assoc] at this
  omega
 have a5:S/V*(V/4294967296^(k-1))<=S/4294967296^(k-1):=by
  rw [Nat.le_div_iff_mul_le hp,Nat.mul_assoc]
  exact Nat.le_trans (Nat.mul_le_mul_left (S/V) v2) q1
 refine ⟨a1,a2,a3,a4,a5, ?_⟩
 have:=Nat.mul_le_mul (show S/V+1<=4294967296 by omega) (show V/4294967296^(k-1)+1<=4294967296 by omega)
 omega
theorem qA2{S V k g r:Nat}(hk:2<=k)(hn:2147483648*4294967296^(k-1)<=V)
  (he:g*(V/4294967296^(k-1))+r=S/4294967296^(k-1)) (hg:g<4294967296)
  (hc:4294967296<=r\/g*(V/4294967296^(k-2)%4294967296)<=r*4294967296+S/4294967296^(k-2)%4294967296):g<=S/V+1:=by
 have hp:=qbZ (k-2)
 have hk1:k-1=k-2+1:=by omega
 have hs:=qbj S (k-2)
 have hv:=qbj V (k-2)
 rw [<-hk1] at hs hv
 have hv2:V/4294967296^(k-2)%4294967296<4294967296:=Nat.mod_lt _ (by omega)
 have hu3:S/4294967296^(k-2)%4294967296<4294967296:=Nat.mod_lt _ (by omega)
 have a1:2147483648<=V/4294967296^(k-1):=by rw [Nat.le_div_iff_mul_le (qbZ _)];exact hn
 have v3:V<(V/4294967296^(k-2)+1)*4294967296^(k-2):=by
  have:=Nat.lt_div_mul_add (a:=V) hp
  rw [Nat.add_mul];omega
 have s3:S/4294967296^(k-2)*4294967296^(k-2)<=S:=Nat.div_mul_le_self S _
 have hV0:0<V:=by have:=qbZ (k-1);omega
 generalize V/4294967296^(k-2)%4294967296=y at*
 generalize S/4294967296^(k-2)%4294967296=u at*
 generalize V/4294967296^(k-1)=x at*
 generalize S/4294967296^(k-1)=t at*
 generalize V/4294967296^(k-2)=V2 at*
 generalize S/4294967296^(k-2)=S3 at*
 generalize 4294967296^(k-2)=p at*
 have hgv:g*V2<=S3:=by
  have h1:g*y<=r*4294967296+u:=by
   rcases hc with h|h
   ·have h2:=Nat.mul_le_mul (show g<=4294967295 by omega) (show y<=4294967295 by omega)
    omega
   ·exact h
  have:g*V2=g*x*4294967296+g*y:=by rw [hv];grind
  omega
 rcases Nat.eq_zero_or_pos g with h0|h0
 ·rw [h0];exact Nat.zero_le _
 ·obtain ⟨g',rfl⟩: ∃g',g=g'+1:=⟨g-1,by omega⟩
  have:g'<=S/V:=by
   rw [Nat.le_div_iff_mul_le hV0]
   have h1:=Nat.mul_le_mul_left g' (Nat.le_of_lt v3)
   have h2:g'*(V2+1)<=S3:=by rw [Nat.mul_add];rw [Nat.add_mul] at hgv;omega
   have h3:=Nat.mul_le_mul_right p h2
   rw [Nat.mul_assoc] at h3
   omega
  omega
theorem qxp{S V k g r:Nat}(hk:2<=k)(hV0:0<V)(hq:S/V<4294967296)
  (he:g*(V/4294967296^(k-1))+r=S/4294967296^(k-1))
  (hc:4294967296<=g\/r*4294967296+S/4294967296^(k-2)%4294967296<g*(V/4294967296^(k-2)%4294967296)):S/V<g:=by
 rcases hc with h|h
 ·omega
 ·have hp:=qbZ (k-2)
  have hk1:k-1=k-2+1:=by omega
  have hs:=qbj S (k-2)
  have hv:=qbj V (k-2)
  rw [<-hk1] at hs hv
  have v3:V/4294967296^(k-2)*4294967296^(k-2)<=V:=Nat.div_mul_le_self V _
  have q1:S/V*V<=S:=Nat.div_mul_le_self S V
  have s3:S/V*(V/4294967296^(k-2))<=S/4294967296^(k-2):=by
   rw [Nat.le_div_iff_mul_le hp,Nat.mul_assoc]
   exact Nat.le_trans (Nat.mul_le_mul_left _ v3) q1
  generalize V/4294967296^(k-2)%4294967296=y at*
  generalize S/4294967296^(k-2)%4294967296=u at*
  generalize V/4294967296^(k-1)=x at*
  generalize S/4294967296^(k-1)=t at*
  generalize V/4294967296^(k-2)=V2 at*
  generalize S/4294967296^(k-2)=S3 at*
  generalize S/V=q at*
  have e:g*V2=g*x*4294967296+g*y:=by rw [hv];grind
  rcases Nat.lt_or_ge q g with h1|h1
  ·exact h1
  ·have:=Nat.mul_le_mul_right V2 h1
   omega
theorem qBq{m i j lo hi d:Nat}(hlo:lo<4294967296^(i+j))(hd:d<4294967296):
  (dl m (lo+hi*4294967296^(i+j))).set (i+j) d=dl m ((lo+d*4294967296^(i+j))+hi/4294967296*4294967296^(i+(j+1))):=by
 rw [dl_set _ hd]
 congr 1
 have hp:=qbZ (i+j)
 rw [Nat.add_mul_mod_self_right,Nat.mod_eq_of_lt hlo,show i+j+1=(i+j)+1 from rfl,Nat.pow_succ, <-Nat.div_div_eq_div_mul,Nat.add_mul_div_right _ _ hp,Nat.div_eq_of_lt hlo,Nat.zero_add]
 rw [show i+(j+1)=i+j+1 from rfl,Nat.pow_succ]
 generalize 4294967296^(i+j)=p
 generalize hi/4294967296=z
 grind
theorem qwf{i j lo hi:Nat}(hlo:lo<4294967296^(i+j)):(lo+hi*4294967296^(i+j))/4294967296^(i+j)%4294967296=hi%4294967296:=by
 rw [Nat.add_mul_div_right _ _ (qbZ _),Nat.div_eq_of_lt hlo,Nat.zero_add]
def mix(R D i j:Nat):Nat:=(R%4294967296^i+D%4294967296^j*4294967296^i)+R/4294967296^(i+j)*4294967296^(i+j)
theorem qtX(R D i j:Nat):R%4294967296^i+D%4294967296^j*4294967296^i<4294967296^(i+j):=by
 have h1:=Nat.mod_lt R (qbZ i)
 have h2:=Nat.mul_le_mul_right (4294967296^i) (show D%4294967296^j+1<=4294967296^j from Nat.mod_lt D (qbZ j))
 rw [Nat.add_mul,Nat.one_mul, <-Nat.pow_add,Nat.add_comm j i] at h2
 omega
theorem qnc(R D i:Nat):mix R D i 0=R:=by
 unfold mix
 simp only [Nat.pow_zero,Nat.mod_one,Nat.zero_mul,Nat.add_zero]
 rw [Nat.mul_comm,Nat.mod_add_div]
theorem qjq(R D i j:Nat):mix R D i j/4294967296^(i+j)%4294967296=R/4294967296^(i+j)%4294967296:=qwf (qtX R D i j)
theorem qj2(m R D i j:Nat):(dl m (mix R D i j)).set (i+j) (D/4294967296^j%4294967296)=dl m (mix R D i (j+1)):=by
 unfold mix
 rw [qBq (qtX R D i j) (Nat.mod_lt _ (by omega)),qbc D j,Nat.div_div_eq_div_mul, <-Nat.pow_succ]
 congr 1
 rw [Nat.pow_add 4294967296 i j]
 have e:R/4294967296^(i+j).succ=R/4294967296^(i+(j+1)):=rfl
 rw [e]
 generalize R/4294967296^(i+(j+1))*4294967296^(i+(j+1))=z
 generalize 4294967296^i=p
 grind
def qmd(g V j:Nat):Nat:=g*(V%4294967296^j)/4294967296^j
theorem qrM(g V:Nat):qmd g V 0=0:=by simp [qmd,Nat.mod_one]
theorem qo9(g V j:Nat):qmd g V j<=g:=by
 unfold qmd
 have hp:=qbZ j
 have:=Nat.mod_lt V hp
 exact Nat.div_le_of_le_mul (by rw [Nat.mul_comm];exact Nat.mul_le_mul_right _ (Nat.le_of_lt this))
theorem qnu(g V j:Nat):qmd g V j+g*(V/4294967296^j%4294967296)=g*(V%4294967296^(j+1))/4294967296^j:=by
 unfold qmd
 have hp:=qbZ j
 rw [Nat.pow_succ,Nat.mod_mul,Nat.mul_add,Nat.mul_left_comm,Nat.add_mul_div_left _ _ hp]
theorem qsP(g V j:Nat):(qmd g V j+g*(V/4294967296^j%4294967296))%4294967296=g*V/4294967296^j%4294967296:=by
 rw [qnu]
 have hp:=qbZ j
 have e:g*V=g*(V%4294967296^(j+1))+4294967296^j*(4294967296*(g*(V/4294967296^(j+1)))):=by
  conv=>lhs;rw [<-Nat.mod_add_div V (4294967296^(j+1))]
  rw [Nat.mul_add,Nat.pow_succ]
  simp only [Nat.mul_assoc,Nat.mul_left_comm,Nat.mul_comm]
 rw [e,Nat.add_mul_div_left _ _ hp,Nat.add_mul_mod_self_left]
theorem qqo(g V j:Nat):(qmd g V j+g*(V/4294967296^j%4294967296))/4294967296=qmd g V (j+1):=by
 rw [qnu,Nat.div_div_eq_div_mul, <-Nat.pow_succ]
 rfl
theorem qsK{g V k:Nat}(hV:V<4294967296^k):qmd g V k=g*V/4294967296^k:=by
 unfold qmd;rw [Nat.mod_eq_of_lt hV]
theorem qwG{g V j:Nat}(hg:g<4294967296):qmd g V j+g*(V/4294967296^j%4294967296)<18446744073709551616:=by
 have h1:=qo9 g V j
 have h2:=Nat.mul_le_mul (show g<=4294967295 by omega) (show V/4294967296^j%4294967296<=4294967295 by omega)
 omega
theorem qmF{s k j:Nat}(hj:j<=k):(s+4294967296^(k+1))/4294967296^j%4294967296=s/4294967296^j%4294967296:=by
 have e:4294967296^(k+1)=4294967296^j*(4294967296*4294967296^(k-j)):=by
  rw [<-Nat.pow_succ', <-Nat.pow_add];congr 1;omega
 rw [e,Nat.add_mul_div_left _ _ (qbZ j),Nat.add_mul_mod_self_left]
theorem qpF{R D i j:Nat}(hR:R<4294967296^(i+j)):mix R D i j=R%4294967296^i+D%4294967296^j*4294967296^i:=by
 unfold mix
 rw [Nat.div_eq_of_lt hR];simp
theorem qA0{g V k:Nat}(hg:g<4294967296)(hV:V<4294967296^k):g*V<4294967296^(k+1):=by
 rw [Nat.pow_succ']
 exact Nat.mul_lt_mul'' hg hV
theorem qvn{s g V k:Nat}(hs:s<4294967296^(k+1))(hP:g*V<4294967296^(k+1)):bor (s+4294967296^(k+1)) (g*V) (k+1)=if s<g*V then 1 else 0:=by
 unfold bor
 rw [Nat.add_mod_right,Nat.mod_eq_of_lt hs,Nat.mod_eq_of_lt hP]
theorem qED{s g V k:Nat}(hV0:0<V)(hV:V<4294967296^k)(h1:s/V<=g)(h2: ¬s<g*V):g=s/V/\(s+4294967296^(k+1)-g*V)%4294967296^(k+1)=s%V:=by
 have hg:g=s/V:=Nat.le_antisymm ((Nat.le_div_iff_mul_le hV0).2 (by omega)) h1
 refine ⟨hg, ?_⟩
 have h3:=Nat.mod_add_div s V
 have h4:g*V=V*(s/V):=by rw [hg,Nat.mul_comm]
 have h5:=Nat.mod_lt s hV0
 have h6:4294967296^k<=4294967296^(k+1):=Nat.pow_le_pow_right (by omega) (by omega)
 rw [show s+4294967296^(k+1)-g*V=s%V+4294967296^(k+1) by omega,Nat.add_mod_right,Nat.mod_eq_of_lt (by omega)]
theorem qDD{s g V k:Nat}(hV0:0<V)(hV:V<4294967296^k)(h1:g<=s/V+1)(h2:s<g*V):g=s/V+1/\s+4294967296^(k+1)-g*V<4294967296^(k+1)/\(s+4294967296^(k+1)-g*V+V)%4294967296^(k+1)=s%V:=by
 have hg:s/V<g:=(Nat.div_lt_iff_lt_mul hV0).2 h2
 have hg':g=s/V+1:=by omega
 have h3:=Nat.mod_add_div s V
 have h4:g*V=V*(s/V)+V:=by rw [hg',Nat.add_mul,Nat.one_mul,Nat.mul_comm]
 have h5:=Nat.mod_lt s hV0
 have h6:4294967296^k<=4294967296^(k+1):=Nat.pow_le_pow_right (by omega) (by omega)
 refine ⟨hg',by omega, ?_⟩
 rw [show s+4294967296^(k+1)-g*V+V=s%V+4294967296^(k+1) by omega,Nat.add_mod_right,Nat.mod_eq_of_lt (by omega)]
theorem qny{R D i j:Nat}:(R%4294967296^i+D*4294967296^i)/4294967296^(i+j)%4294967296=D/4294967296^j%4294967296:=by
 have hp:=qbZ i
 rw [Nat.pow_add, <-Nat.div_div_eq_div_mul,Nat.add_mul_div_right _ _ hp,Nat.div_eq_of_lt (Nat.mod_lt _ hp),Nat.zero_add]
theorem qsa{R D E i k:Nat}(hD:D<4294967296^(k+1)):mix (R%4294967296^i+D*4294967296^i) E i (k+1)=R%4294967296^i+E%4294967296^(k+1)*4294967296^i:=by
 have hp:=qbZ i
 have h1:=Nat.mod_lt R hp
 rw [qpF,Nat.add_mul_mod_self_right,Nat.mod_mod]
 have h2:=Nat.mul_le_mul_right (4294967296^i) (show D+1<=4294967296^(k+1) from hD)
 rw [Nat.add_mul,Nat.one_mul] at h2
 rw [Nat.pow_add,Nat.mul_comm (4294967296^i)]
 omega
theorem qyl(A V i:Nat):A%(V*4294967296^(i+1))%4294967296^i+A%(V*4294967296^(i+1))/4294967296^i%V*4294967296^i=A%(V*4294967296^i):=by
 have h:=Nat.mod_mul (x:=A%(V*4294967296^(i+1))) (a:=4294967296^i) (b:=V)
 rw [Nat.mul_comm (4294967296^i) (A%(V*4294967296^(i+1))/4294967296^i%V)] at h
 rw [<-h]
 rw [Nat.mul_comm (4294967296^i) V]
 exact Nat.mod_mod_of_dvd _ ⟨4294967296,by rw [Nat.pow_succ,Nat.mul_assoc]⟩
theorem qBv(A V i:Nat):A%(V*4294967296^(i+1))/4294967296^i/V=A/(V*4294967296^i)%4294967296:=by
 rw [Nat.div_div_eq_div_mul,Nat.mul_comm (4294967296^i) V,Nat.pow_succ, <-Nat.mul_assoc,Nat.mod_mul_right_div_self]
theorem qwC{A V i:Nat}(hV:0<V):A%(V*4294967296^(i+1))/4294967296^i<V*4294967296:=by
 have hp:=qbZ i
 rw [Nat.div_lt_iff_lt_mul hp]
 have:=Nat.mod_lt A (show 0<V*4294967296^(i+1) from Nat.mul_pos hV (qbZ _))
 have e:V*4294967296^(i+1)=V*4294967296*4294967296^i:=by rw [Nat.pow_succ', <-Nat.mul_assoc]
 rw [<-e]
 exact this
theorem qgG{d:Nat}(h:d≠0):(0:Rat)<(d:Rat):=Rat.natCast_pos.2 (Nat.pos_of_ne_zero h)
theorem qjW{n m:Int}{d e:Nat}(hd:d≠0)(he:e≠0):mkRat n d<mkRat m e↔n*e<m*d:=by
 have hd':=qgG hd
 have he':=qgG he
 have hd0:=Rat.ne_of_gt hd'
 have he0:=Rat.ne_of_gt he'
 rw [Rat.mkRat_eq_div,Rat.mkRat_eq_div]
 have e1:((n:Rat)/(d:Rat))*((d:Rat)*(e:Rat))=(n:Rat)*(e:Rat):=by rw [<-Rat.mul_assoc,Rat.div_mul_cancel hd0]
 have e2:((m:Rat)/(e:Rat))*((d:Rat)*(e:Rat))=(m:Rat)*(d:Rat):=by rw [Rat.mul_comm (d:Rat), <-Rat.mul_assoc,Rat.div_mul_cancel he0]
 rw [<-Rat.mul_lt_mul_right (Rat.mul_pos hd' he'),e1,e2, <-Rat.intCast_natCast, <-Rat.intCast_natCast, <-Rat.intCast_mul, <-Rat.intCast_mul,Rat.intCast_lt_intCast]
def qsH(p q:Rat):Int:=if p<q then-1 else if q<p then 1 else 0
def qpG(p:Rat):Int:=if p<0 then-1 else if 0<p then 1 else 0
theorem qpp{n:Int}{d:Nat}(hd:d≠0):0<mkRat n d↔0<n:=by
 have h0:(0:Rat)=mkRat 0 1:=by rw [Rat.zero_mkRat]
 rw [h0,qjW (by decide) hd];simp
theorem qpX{n:Int}{d:Nat}(hd:d≠0):mkRat n d<0↔n<0:=by
 have h0:(0:Rat)=mkRat 0 1:=by rw [Rat.zero_mkRat]
 rw [h0,qjW hd (by decide)];simp
theorem qq3{p q:Rat}:qsH p q=0↔p=q:=by
 unfold qsH
 constructor
 ·intro h;split at h
  ·omega
  ·split at h
   ·omega
   ·grind
 ·rintro rfl;simp [Rat.lt_irrefl]
theorem qrT{p:Rat}:qpG p=0↔p=0:=by
 unfold qpG
 constructor
 ·intro h;split at h
  ·omega
  ·split at h
   ·omega
   ·grind
 ·rintro rfl;simp [Rat.lt_irrefl]
abbrev P2:=Rat×Rat
def lin(p q:P2)(t:Rat):P2:=(p.1+(q.1-p.1)*t,p.2+(q.2-p.2)*t)
def prs(a:P2):List P2->List (P2×P2)
 | [] => []
 |b::l=>(a,b)::prs b l
def cyc:List P2->List (P2×P2)
 | [] => []
 |a::l=>prs a (l++ [a])
def qbU(f:P2->P2->Rat):List (P2×P2)->Rat
 | [] =>0
 |e::l=>f e.1 e.2+qbU f l
def tot(f:P2->P2->Rat)(l:List P2):Rat:=qbU f (cyc l)
theorem qcQ(f:P2->P2->Rat): ∀a b:List (P2×P2),qbU f (a++b)=qbU f a+qbU f b
 | [],b=>by simp only [List.nil_append,qbU];grind
 |e::a,b=>by simp only [List.cons_append,qbU,qcQ f a b];grind
structure Hf where
 ax:Bool
 up:Bool
 c:Rat
def Hf.s(h:Hf)(p:P2):Rat:=if h.up then (if h.ax then p.1 else p.2)-h.c else h.c-(if h.ax then p.1 else p.2)
def Hf.b(h:Hf):P2:=(h.c,h.c)
theorem Hf.s_lin(h:Hf)(u v:P2)(t:Rat):h.s (lin u v t)=h.s u+(h.s v-h.s u)*t:=by
 obtain ⟨ax,up,c⟩:=h
 cases ax<;>cases up<;>simp [Hf.s,lin] <;>grind
theorem Hf.s_b(h:Hf):h.s h.b=0:=by
 obtain ⟨ax,up,c⟩:=h
 cases ax<;>cases up<;>simp [Hf.s,Hf.b] <;>grind
theorem qf2(u v:P2)(a b t:Rat):lin (lin u v a) (lin u v b) t=lin u v (a+(b-a)*t):=by
 simp only [lin,Prod.mk.injEq];constructor<;>grind
theorem qaw(u v:P2):lin u v 0=u:=by
 obtain ⟨a,b⟩:=u;simp only [lin,Prod.mk.injEq];constructor<;>grind
theorem qa6(u v:P2):lin u v 1=v:=by
 obtain ⟨a,b⟩:=u;obtain ⟨c,d⟩:=v;simp only [lin,Prod.mk.injEq];constructor<;>grind
def Exa(f:P2->P2->Rat):Prop:= ∀u v r s t,f (lin u v r) (lin u v s)+f (lin u v s) (lin u v t)=f (lin u v r) (lin u v t)
theorem Exa.self{f:P2->P2->Rat}(h:Exa f)(p:P2):f p p=0:=by
 have:=h p p 0 0 0
 rw [qaw] at this;grind
theorem Hf.onl(h:Hf){p:P2}(hp:h.s p=0): ∃t,p=lin h.b (if h.ax then (h.c,h.c+1) else (h.c+1,h.c)) t:=by
 obtain ⟨ax,up,c⟩:=h
 obtain ⟨x,y⟩:=p
 cases ax<;>cases up<;>simp [Hf.s,Hf.b,lin] at hp ⊢
 ·exact ⟨x-c,by grind,by grind⟩
 ·exact ⟨x-c,by grind,by grind⟩
 ·exact ⟨y-c,by grind,by grind⟩
 ·exact ⟨y-c,by grind,by grind⟩
theorem Exa.pot{f:P2->P2->Rat}(h:Exa f)(H:Hf){p q:P2}(hp:H.s p=0)(hq:H.s q=0):f p q=f H.b q-f H.b p:=by
 obtain ⟨r,hr⟩:=H.onl hp
 obtain ⟨s,hs⟩:=H.onl hq
 obtain ⟨t,ht⟩:=H.onl H.s_b
 have e:=h H.b (if H.ax then (H.c,H.c+1) else (H.c+1,H.c)) t r s
 rw [<-hr, <-hs, <-ht] at e
 grind
def crs(H:Hf)(p q:P2):P2:=lin p q (H.s p/(H.s p-H.s q))
def hf(H:Hf)(f:P2->P2->Rat)(p q:P2):Rat:=
 if 0<=H.s p then (if 0<=H.s q then f p q else f p (crs H p q)-f H.b (crs H p q))
 else (if 0<=H.s q then f H.b (crs H p q)+f (crs H p q) q else 0)
theorem qfQ(H:Hf){p q:P2}(h:H.s p≠H.s q):H.s (crs H p q)=0:=by
 unfold crs
 rw [H.s_lin]
 have:H.s p-H.s q≠0:=by grind
 grind
theorem qpL(H:Hf)(u v:P2)(a b:Rat)(h:H.s (lin u v a)≠H.s (lin u v b)):crs H (lin u v a) (lin u v b)=lin u v (H.s u/(H.s u-H.s v)):=by
 unfold crs
 rw [qf2]
 congr 1
 rw [H.s_lin,H.s_lin] at h ⊢
 generalize H.s u=x at*
 generalize H.s v=y at*
 have h1:x-y≠0:=by
  intro h2;apply h
  have:y=x:=by grind
  rw [this];grind
 have h2:x+(y-x)*a-(x+(y-x)*b)≠0:=by grind
 have h3:x+(y-x)*a-(x+(y-x)*b)=(x-y)*(b-a):=by grind
 have h4:b-a≠0:=by intro h5;apply h2;rw [h3,h5];grind
 rw [h3]
 grind
theorem qhq(H:Hf){f:P2->P2->Rat}(h:Exa f):Exa (hf H f):=by
 intro u v
 by_cases hc:H.s u=H.s v
 ·intro r s t
  have e: ∀t,H.s (lin u v t)=H.s u:=fun t=>by rw [H.s_lin,hc];grind
  unfold hf
  rw [e,e,e]
  by_cases h0:0<=H.s u
  ·simp only [if_pos h0];exact h u v r s t
  ·simp only [if_neg h0];grind
 ·have key: ∀r s,hf H f (lin u v r) (lin u v s)=
    (if 0<=H.s (lin u v s) then f (lin u v (H.s u/(H.s u-H.s v))) (lin u v s)+f H.b (lin u v (H.s u/(H.s u-H.s v))) else 0)
    -(if 0<=H.s (lin u v r) then f (lin u v (H.s u/(H.s u-H.s v))) (lin u v r)+f H.b (lin u v (H.s u/(H.s u-H.s v))) else 0):=by
   intro r s
   unfold hf
   have e1:=h u v (H.s u/(H.s u-H.s v)) r s
   have e2:=h u v r (H.s u/(H.s u-H.s v)) r
   have e3:=h.self (lin u v r)
   by_cases h1:0<=H.s (lin u v r)<;>by_cases h2:0<=H.s (lin u v s)
   ·simp only [if_pos h1,if_pos h2];grind
   ·simp only [if_pos h1,if_neg h2]
    rw [qpL H u v r s (by grind)];grind
   ·simp only [if_neg h1,if_pos h2]
    rw [qpL H u v r s (by grind)];grind
   ·simp only [if_neg h1,if_neg h2];grind
  intro r s t
  rw [key,key,key];grind
def qfh(H:Hf)(e:P2×P2):List P2:=
 (if 0<=H.s e.1 then [e.1] else [])++(if (H.s e.1<0/\0<H.s e.2)\/(0<H.s e.1/\H.s e.2<0) then [crs H e.1 e.2] else [])
def cut(H:Hf)(l:List P2):List P2:=(cyc l).flatMap (qfh H)
def qbh(o:P2):List P2->P2
 | [] =>o
 |a::l=>qbh a l
def lk(H:Hf)(f:P2->P2->Rat)(o p:P2):Rat:=if 0<=H.s p then f o p else-f H.b o
theorem qjf(H:Hf){p q:P2}(h:H.s p=0):crs H p q=p:=by
 unfold crs;rw [h]
 have:(0:Rat)/(0-H.s q)=0:=by rw [Rat.div_def];grind
 rw [this,qaw]
theorem qia(H:Hf){p q:P2}(h:H.s q=0)(h2:H.s p≠0):crs H p q=q:=by
 unfold crs;rw [h]
 have:H.s p/(H.s p-0)=1:=by grind
 rw [this,qa6]
theorem qc7(H:Hf){f:P2->P2->Rat}(hf':Exa f): ∀(l:List P2) (o a:P2),(H.s a<0->H.s o=0)->
  qbU f (prs o ((prs a l).flatMap (qfh H)))+lk H f (qbh o ((prs a l).flatMap (qfh H))) (qbh a l)=lk H f o a+qbU (hf H f) (prs a l)
   /\(H.s (qbh a l)<0->H.s (qbh o ((prs a l).flatMap (qfh H)))=0)
 | [],o,a,h=>by simp only [prs,List.flatMap_nil,qbU,qbh];exact ⟨by grind,h⟩
 |b::l,o,a,h=>by
  have s0:=hf'.self a
  simp only [prs,List.flatMap_cons,qbh,qbU]
  by_cases ha:0<=H.s a
  ·by_cases hb:0<=H.s b
   ·have e:qfh H (a,b)= [a] :=by simp only [qfh];rw [if_pos ha,if_neg (by grind)];rfl
    rw [e]
    obtain ⟨i1,i2⟩:=qc7 H hf' l a b (by grind)
    simp only [List.cons_append,List.nil_append,prs,qbU,qbh]
    refine ⟨?_,i2⟩
    have e1:lk H f o a=f o a:=by unfold lk;rw [if_pos ha]
    have e2:lk H f a b=f a b:=by unfold lk;rw [if_pos hb]
    have e3:hf H f a b=f a b:=by unfold hf;rw [if_pos ha,if_pos hb]
    grind
   ·by_cases h0:H.s a=0
    ·have e:qfh H (a,b)= [a] :=by simp only [qfh];rw [if_pos ha,if_neg (by grind)];rfl
     rw [e]
     obtain ⟨i1,i2⟩:=qc7 H hf' l a b (fun _=>h0)
     simp only [List.cons_append,List.nil_append,prs,qbU,qbh]
     refine ⟨?_,i2⟩
     have e1:lk H f o a=f o a:=by unfold lk;rw [if_pos ha]
     have e2:lk H f a b= -f H.b a:=by unfold lk;rw [if_neg hb]
     have e3:hf H f a b=f a a-f H.b a:=by unfold hf;rw [if_pos ha,if_neg hb,qjf H h0]
     grind
    ·have e:qfh H (a,b)= [a,crs H a b] :=by simp only [qfh];rw [if_pos ha,if_pos (by grind)];rfl
     have hx:H.s (crs H a b)=0:=qfQ H (by grind)
     rw [e]
     obtain ⟨i1,i2⟩:=qc7 H hf' l (crs H a b) b (fun _=>hx)
     simp only [List.cons_append,List.nil_append,prs,qbU,qbh]
     refine ⟨?_,i2⟩
     have e1:lk H f o a=f o a:=by unfold lk;rw [if_pos ha]
     have e2:lk H f (crs H a b) b= -f H.b (crs H a b):=by unfold lk;rw [if_neg hb]
     have e3:hf H f a b=f a (crs H a b)-f H.b (crs H a b):=by unfold hf;rw [if_pos ha,if_neg hb]
     grind
  ·have ho:=h (by grind)
   have e1:lk H f o a= -f H.b o:=by unfold lk;rw [if_neg ha]
   by_cases hb:0<=H.s b
   ·by_cases h0:H.s b=0
    ·have e:qfh H (a,b)= [] :=by simp only [qfh];rw [if_neg ha,if_neg (by grind)];rfl
     rw [e]
     obtain ⟨i1,i2⟩:=qc7 H hf' l o b (by grind)
     simp only [List.nil_append]
     refine ⟨?_,i2⟩
     have e2:lk H f o b=f o b:=by unfold lk;rw [if_pos hb]
     have e3:hf H f a b=f H.b b+f b b:=by unfold hf;rw [if_neg ha,if_pos hb,qia H h0 (by grind)]
     have e4:=hf'.pot H ho h0
     have e5:=hf'.self b
     grind
    ·have e:qfh H (a,b)= [crs H a b] :=by simp only [qfh];rw [if_neg ha,if_pos (by grind)];rfl
     have hx:H.s (crs H a b)=0:=qfQ H (by grind)
     rw [e]
     obtain ⟨i1,i2⟩:=qc7 H hf' l (crs H a b) b (fun _=>hx)
     simp only [List.cons_append,List.nil_append,prs,qbU,qbh]
     refine ⟨?_,i2⟩
     have e2:lk H f (crs H a b) b=f (crs H a b) b:=by unfold lk;rw [if_pos hb]
     have e3:hf H f a b=f H.b (crs H a b)+f (crs H a b) b:=by unfold hf;rw [if_neg ha,if_pos hb]
     have e4:=hf'.pot H ho hx
     grind
   ·have e:qfh H (a,b)= [] :=by simp only [qfh];rw [if_neg ha,if_neg (by grind)];rfl
    rw [e]
    obtain ⟨i1,i2⟩:=qc7 H hf' l o b (fun _=>ho)
    simp only [List.nil_append]
    refine ⟨?_,i2⟩
    have e2:lk H f o b= -f H.b o:=by unfold lk;rw [if_neg hb]
    have e3:hf H f a b=0:=by unfold hf;rw [if_neg ha,if_neg hb]
    grind
theorem qf3(f:P2->P2->Rat): ∀(l m:List P2) (a:P2),qbU f (prs a (l++m))=qbU f (prs a l)+qbU f (prs (qbh a l) m)
 | [],m,a=>by simp only [List.nil_append,prs,qbU,qbh];grind
 |b::l,m,a=>by simp only [List.cons_append,prs,qbU,qbh,qf3 f l m b];grind
theorem qbm: ∀(l m:List P2) (a:P2),qbh a (l++m)=qbh (qbh a l) m
 | [],m,a=>rfl
 |b::l,m,a=>by simp only [List.cons_append,qbh,qbm l m b]
theorem qm1(H:Hf): ∀(l:List P2) (a:P2),H.s a<0-> ∀o r,(prs a l).flatMap (qfh H)=o::r->H.s o=0
 | [],a,h,o,r,e=>by simp [prs] at e
 |b::l,a,h,o,r,e=>by
  simp only [prs,List.flatMap_cons] at e
  by_cases hb:0<H.s b
  ·have e1:qfh H (a,b)= [crs H a b] :=by simp only [qfh];rw [if_neg (by grind),if_pos (by grind)];rfl
   rw [e1] at e
   simp only [List.cons_append,List.nil_append,List.cons.injEq] at e
   rw [<-e.1];exact qfQ H (by grind)
  ·have e1:qfh H (a,b)= [] :=by simp only [qfh];rw [if_neg (by grind),if_neg (by grind)];rfl
   rw [e1,List.nil_append] at e
   by_cases h0:H.s b=0
   ·cases l with
    |nil=>simp [prs] at e
    |cons c l=>
     have e2: ∃r',qfh H (b,c)=b::r':=by simp only [qfh];rw [if_pos (by grind)];exact ⟨_,rfl⟩
     obtain ⟨r',e2⟩:=e2
     simp only [prs,List.flatMap_cons,e2,List.cons_append,List.cons.injEq] at e
     rw [<-e.1];exact h0
   ·exact qm1 H l b (by grind) o r e
theorem qdL(H:Hf){f:P2->P2->Rat}(h:Exa f)(l:List P2):tot f (cut H l)=tot (hf H f) l:=by
 cases l with
 |nil=>rfl
 |cons a l=>
  have hl:qbh a (l++ [a])=a:=by rw [qbm];rfl
  unfold tot cut
  simp only [cyc]
  by_cases ha:0<=H.s a
  ·have e2: ∃r,(prs a (l++ [a])).flatMap (qfh H)=a::r:=by
    cases l with
    |nil=>simp only [List.nil_append,prs,List.flatMap_cons,qfh];rw [if_pos ha];exact ⟨_,rfl⟩
    |cons b l=>simp only [List.cons_append,prs,List.flatMap_cons,qfh];rw [if_pos ha];exact ⟨_,rfl⟩
   obtain ⟨r,e2⟩:=e2
   obtain ⟨i1,i2⟩:=qc7 H h (l++ [a]) a a (by grind)
   rw [e2] at i1 ⊢
   rw [hl] at i1
   simp only [prs,qbU,qbh] at i1
   simp only [cyc]
   rw [qf3]
   simp only [prs,qbU]
   have e3:lk H f a a=0:=by unfold lk;rw [if_pos ha,h.self]
   have e4:lk H f (qbh a r) a=f (qbh a r) a:=by unfold lk;rw [if_pos ha]
   have:=h.self a
   grind
  ·obtain ⟨i1,i2⟩:=qc7 H h (l++ [a]) H.b a (fun _=>H.s_b)
   have f1:=qm1 H (l++ [a]) a (by grind)
   rw [hl] at i1 i2
   generalize (prs a (l++ [a])).flatMap (qfh H)=out at*
   have e3: ∀o,lk H f o a= -f H.b o:=fun o=>by unfold lk;rw [if_neg ha]
   rw [e3,e3] at i1
   cases out with
   |nil=>
    simp only [prs,qbU,qbh] at i1
    simp only [cyc,qbU];grind
   |cons o r=>
    have ho:=f1 o r rfl
    simp only [prs,qbU,qbh] at i1 i2
    simp only [cyc]
    rw [qf3]
    simp only [prs,qbU]
    have hz:=i2 (by grind)
    have e5:=h.pot H hz ho
    have e6:=h.self H.b
    grind
theorem qlk(c:P2->Rat): ∀(l:List P2) (a:P2),qbU (fun p q=>c q-c p) (prs a l)=c (qbh a l)-c a
 | [],a=>by simp only [prs,qbU,qbh];grind
 |b::l,a=>by simp only [prs,qbU,qbh,qlk c l b];grind
theorem qmQ(c:P2->Rat)(l:List P2):tot (fun p q=>c q-c p) l=0:=by
 cases l with
 |nil=>rfl
 |cons a l=>
  unfold tot
  simp only [cyc]
  rw [qlk,qbm]
  simp only [qbh];grind
theorem qg4(f g:P2->P2->Rat): ∀l,qbU (fun p q=>f p q+g p q) l=qbU f l+qbU g l
 | [] =>by simp only [qbU];grind
 |e::l=>by simp only [qbU,qg4 f g l];grind
theorem qgp{f g:P2->P2->Rat}(h: ∀p q,f p q=g p q)(l):qbU f l=qbU g l:=by
 have:f=g:=by funext p q;exact h p q
 rw [this]
def Hf.op(H:Hf):Hf:=⟨H.ax, !H.up,H.c⟩
theorem Hf.op_s(H:Hf)(p:P2):H.op.s p= -H.s p:=by
 obtain ⟨ax,up,c⟩:=H
 cases up<;>simp [Hf.op,Hf.s] <;>grind
theorem qzA(H:Hf)(p q:P2):crs H.op p q=crs H p q:=by
 unfold crs
 rw [H.op_s,H.op_s]
 congr 1
 by_cases h:H.s p-H.s q=0
 ·have h2: -H.s p- -H.s q=0:=by grind
  rw [h,h2,Rat.div_def,Rat.div_def]
  rw [Rat.inv_zero];grind
 ·grind
theorem qtH(H:Hf){f:P2->P2->Rat}(h:Exa f)(l:List P2):tot (hf H f) l+tot (hf H.op f) l=tot f l:=by
 have key: ∀p q,hf H f p q+hf H.op f p q=f p q+((fun p q=>(fun p=>if H.s p=0 then f H.b p else 0) q-(fun p=>if H.s p=0 then f H.b p else 0) p) p q):=by
  intro p q
  have hb:H.op.b=H.b:=rfl
  unfold hf
  rw [hb,H.op_s,H.op_s,qzA]
  have s1:=h.self p
  have s2:=h.self q
  simp only
  have ex:H.s p≠H.s q->f p (crs H p q)+f (crs H p q) q=f p q:=fun _=>by
   have:=h p q 0 (H.s p/(H.s p-H.s q)) 1
   rw [qaw,qa6] at this
   exact this
  have pt:H.s p=0->H.s q=0->f p q=f H.b q-f H.b p:=fun a b=>h.pot H a b
  have cl:H.s p=0->crs H p q=p:=fun a=>qjf H a
  have cr:H.s q=0->H.s p≠0->crs H p q=q:=fun a b=>qia H a b
  rcases Std.lt_trichotomy (H.s p) 0 with a|a|a<;>rcases Std.lt_trichotomy (H.s q) 0 with b|b|b
  ·rw [if_neg (by grind),if_neg (by grind),if_pos (by grind),if_pos (by grind),if_neg (by grind),if_neg (by grind)];grind
  ·rw [if_neg (by grind),if_pos (by grind),if_pos (by grind),if_pos (by grind),if_pos (by grind),if_neg (by grind),cr b (by grind)];grind
  ·rw [if_neg (by grind),if_pos (by grind),if_pos (by grind),if_neg (by grind),if_neg (by grind),if_neg (by grind)];grind
  ·rw [if_pos (by grind),if_neg (by grind),if_pos (by grind),if_pos (by grind),if_neg (by grind),if_pos (by grind),cl a];grind
  ·rw [if_pos (by grind),if_pos (by grind),if_pos (by grind),if_pos (by grind),if_pos (by grind),if_pos (by grind)];grind
  ·rw [if_pos (by grind),if_pos (by grind),if_pos (by grind),if_neg (by grind),if_neg (by grind),if_pos (by grind),cl a];grind
  ·rw [if_pos (by grind),if_neg (by grind),if_neg (by grind),if_pos (by grind),if_neg (by grind),if_neg (by grind)];grind
  ·rw [if_pos (by grind),if_pos (by grind),if_neg (by grind),if_pos (by grind),if_pos (by grind),if_neg (by grind),cr b (by grind)];grind
  ·rw [if_pos (by grind),if_pos (by grind),if_neg (by grind),if_neg (by grind),if_neg (by grind),if_neg (by grind)];grind
 unfold tot
 rw [<-qg4,qgp key,qg4]
 have:=qmQ (fun p=>if H.s p=0 then f H.b p else 0) l
 unfold tot at this
 rw [this];grind
theorem qCP{H M:Hf}{f:P2->P2->Rat}(hs: ∀p,0<=M.s p->0<=H.s p)(p q:P2):hf M (hf H f) p q=hf M f p q:=by
 have e: ∀a b,0<=M.s a->0<=M.s b->hf H f a b=f a b:=fun a b h1 h2=>by
  unfold hf;rw [if_pos (hs a h1),if_pos (hs b h2)]
 have hb:0<=M.s M.b:=by rw [M.s_b];exact Rat.le_refl
 by_cases h1:0<=M.s p<;>by_cases h2:0<=M.s q
 ·rw [hf,if_pos h1,if_pos h2,e _ _ h1 h2,hf,if_pos h1,if_pos h2]
 ·have hx:0<=M.s (crs M p q):=by rw [qfQ M (by grind)];exact Rat.le_refl
  rw [hf,if_pos h1,if_neg h2,e _ _ h1 hx,e _ _ hb hx]
  conv=>rhs;rw [hf,if_pos h1,if_neg h2]
 ·have hx:0<=M.s (crs M p q):=by rw [qfQ M (by grind)];exact Rat.le_refl
  rw [hf,if_neg h1,if_pos h2,e _ _ hx h2,e _ _ hb hx]
  conv=>rhs;rw [hf,if_neg h1,if_pos h2]
 ·rw [hf,if_neg h1,if_neg h2]
  conv=>rhs;rw [hf,if_neg h1,if_neg h2]
theorem qzV{A M:Hf}{f:P2->P2->Rat}(h:Exa f)(hs: ∀p,A.s p<=0->M.s p<0)(p q:P2):hf A (hf M f) p q=hf M f p q:=by
 have z: ∀a b,A.s a<=0->A.s b<=0->hf M f a b=0:=fun a b h1 h2=>by
  have:=hs a h1
  have:=hs b h2
  unfold hf;rw [if_neg (by grind),if_neg (by grind)]
 have hb:A.s A.b<=0:=by rw [A.s_b];exact Rat.le_refl
 have ex:hf M f p (crs A p q)+hf M f (crs A p q) q=hf M f p q:=by
  have:=qhq M h p q 0 (A.s p/(A.s p-A.s q)) 1
  rw [qaw,qa6] at this
  exact this
 by_cases h1:0<=A.s p<;>by_cases h2:0<=A.s q
 ·rw [hf,if_pos h1,if_pos h2]
 ·have hx:A.s (crs A p q)<=0:=by rw [qfQ A (by grind)];exact Rat.le_refl
  rw [hf,if_pos h1,if_neg h2,z _ _ hb hx]
  have:=z (crs A p q) q hx (by grind)
  grind
 ·have hx:A.s (crs A p q)<=0:=by rw [qfQ A (by grind)];exact Rat.le_refl
  rw [hf,if_neg h1,if_pos h2,z _ _ hb hx]
  have:=z p (crs A p q) (by grind) hx
  grind
 ·rw [hf,if_neg h1,if_neg h2,z p q (by grind) (by grind)]
theorem qkL{f g:P2->P2->Rat}(h: ∀p q,f p q=g p q)(l:List P2):tot f l=tot g l:=qgp h _
theorem qrD(ax:Bool){a m b:Rat}(h1:a<m)(h2:m<=b){f:P2->P2->Rat}(h:Exa f)(l:List P2):
  tot f (cut ⟨ax,false,b⟩ (cut ⟨ax,true,a⟩ l))=tot f (cut ⟨ax,false,m⟩ (cut ⟨ax,true,a⟩ l))+tot f (cut ⟨ax,false,b⟩ (cut ⟨ax,true,m⟩ l)):=by
 have hB:=qhq ⟨ax,false,b⟩ h
 rw [qdL _ h,qdL _ h,qdL _ h]
 rw [<-qtH ⟨ax,false,m⟩ hB (cut ⟨ax,true,a⟩ l)]
 congr 1
 ·exact qkL (qCP (by intro p hp;cases ax<;>simp [Hf.s] at hp ⊢ <;>grind)) _
 ·show tot (hf ⟨ax,true,m⟩ (hf ⟨ax,false,b⟩ f)) _=_
  rw [qdL _ (qhq _ hB),qdL _ hB]
  exact qkL (qzV hB (by intro p hp;cases ax<;>simp [Hf.s] at hp ⊢ <;>grind)) _
def ar(p q:P2):Rat:=p.1*q.2-p.2*q.1
theorem qpQ:Exa ar:=by
 intro u v r s t
 simp only [ar,lin];grind
def qBP(x0 y0 x1 y1:Rat)(l:List P2):List P2:=cut ⟨false,false,y1⟩ (cut ⟨false,true,y0⟩ (cut ⟨true,false,x1⟩ (cut ⟨true,true,x0⟩ l)))
def qni(x0 y0 x1 y1:Rat)(l:List P2):Rat:=tot ar (qBP x0 y0 x1 y1 l)
theorem qnw{x0 y0 x1 y1 m:Rat}(h1:y0<m)(h2:m<=y1)(l:List P2):qni x0 y0 x1 y1 l=qni x0 y0 x1 m l+qni x0 m x1 y1 l:=by
 unfold qni qBP
 exact qrD false h1 h2 qpQ _
def orQ(a b c:P2):Rat:=(b.1-a.1)*(c.2-a.2)-(b.2-a.2)*(c.1-a.1)
def crI(u v p:P2):Int:=if u.2<=p.2/\p.2<v.2/\0<orQ u v p then 1 else if v.2<=p.2/\p.2<u.2/\0<orQ v u p then-1 else 0
def qj3(a b p:P2):Int:=if a.2<p.2/\p.2<=b.2/\orQ a b p<0 then 1 else if b.2<p.2/\p.2<=a.2/\orQ b a p<0 then-1 else 0
def Disj(a b u v:P2):Prop:= ∀s t:Rat,0<=s->s<=1->0<=t->t<=1->lin a b s≠lin u v t
theorem qcl(a b:P2)(t:Rat):lin b a t=lin a b (1-t):=by
 simp only [lin,Prod.mk.injEq];constructor<;>grind
theorem Disj.swap1{a b u v:P2}(h:Disj a b u v):Disj b a u v:=fun s t h1 h2 h3 h4=>by
 rw [qcl];exact h _ _ (by grind) (by grind) h3 h4
theorem Disj.swap2{a b u v:P2}(h:Disj a b u v):Disj a b v u:=fun s t h1 h2 h3 h4=>by
 rw [qcl u v];exact h _ _ h1 h2 (by grind) (by grind)
theorem qgP(u v p:P2):crI v u p= -crI u v p:=by
 unfold crI
 by_cases h1:u.2<=p.2/\p.2<v.2/\0<orQ u v p
 ·rw [if_pos h1,if_neg (by grind),if_pos h1]
 ·rw [if_neg h1]
  by_cases h2:v.2<=p.2/\p.2<u.2/\0<orQ v u p
  ·rw [if_pos h2,if_neg h1,if_pos h2];rfl
  ·rw [if_neg h2,if_neg h1,if_neg h2];rfl
theorem qfH(u v p:P2):qj3 v u p= -qj3 u v p:=by
 unfold qj3
 by_cases h1:u.2<p.2/\p.2<=v.2/\orQ u v p<0
 ·rw [if_pos h1,if_neg (by grind),if_pos h1]
 ·rw [if_neg h1]
  by_cases h2:v.2<p.2/\p.2<=u.2/\orQ v u p<0
  ·rw [if_pos h2,if_neg h1,if_pos h2];rfl
  ·rw [if_neg h2,if_neg h1,if_neg h2];rfl
theorem qbH{x y:Rat}(h1:0<=x)(h2:x<=y)(h3:0<y):0<=x/y/\x/y<=1:=by
 rw [Rat.div_def]
 have hi:=Rat.inv_pos.2 h3
 constructor
 ·exact Rat.mul_nonneg h1 (Rat.le_of_lt hi)
 ·have h:=Rat.mul_le_mul_of_nonneg_right h2 (Rat.le_of_lt hi)
  rw [Rat.mul_inv_cancel y (by grind)] at h
  exact h
theorem Disj.sep{a b u v:P2}(h:Disj a b u v){s0 s1 t0 t1:Rat}(hs0:0<=s0/\s0<=1)(hs1:0<=s1/\s1<=1)(ht0:0<=t0/\t0<=1)(ht1:0<=t1/\t1<=1)
  (e0:(lin a b s0).2=(lin u v t0).2) (e1:(lin a b s1).2=(lin u v t1).2):
  ((lin a b s0).1<(lin u v t0).1/\(lin a b s1).1<(lin u v t1).1)\/((lin u v t0).1<(lin a b s0).1/\(lin u v t1).1<(lin a b s1).1):=by
 have key: ∀(k:Rat),0<=k->k<=1->(lin a b s0).1+((lin a b s1).1-(lin a b s0).1)*k≠(lin u v t0).1+((lin u v t1).1-(lin u v t0).1)*k:=by
  intro k k0 k1 e
  have m1:0<=s0+(s1-s0)*k/\s0+(s1-s0)*k<=1:=by
   have:=Rat.mul_nonneg k0 hs1.1
   have:=Rat.mul_nonneg k0 (show 0<=1-s1 by grind)
   have:=Rat.mul_nonneg (show 0<=1-k by grind) hs0.1
   have:=Rat.mul_nonneg (show 0<=1-k by grind) (show 0<=1-s0 by grind)
   constructor<;>grind
  have m2:0<=t0+(t1-t0)*k/\t0+(t1-t0)*k<=1:=by
   have:=Rat.mul_nonneg k0 ht1.1
   have:=Rat.mul_nonneg k0 (show 0<=1-t1 by grind)
   have:=Rat.mul_nonneg (show 0<=1-k by grind) ht0.1
   have:=Rat.mul_nonneg (show 0<=1-k by grind) (show 0<=1-t0 by grind)
   constructor<;>grind
  refine h _ _ m1.1 m1.2 m2.1 m2.2 ?_
  rw [<-qf2, <-qf2]
  simp only [lin] at e e0 e1 ⊢
  rw [Prod.mk.injEq]
  exact ⟨e,by rw [e0,e1]⟩
 have k0:=key 0 (by grind) (by grind)
 have k1:=key 1 (by grind) (by grind)
 generalize (lin a b s0).1=p at*
 generalize (lin a b s1).1=q at*
 generalize (lin u v t0).1=r at*
 generalize (lin u v t1).1=w at*
 rcases Std.lt_trichotomy p r with c|c|c
 ·rcases Std.lt_trichotomy q w with d|d|d
  ·exact .inl ⟨c,d⟩
  ·exact absurd (by grind) k1
  ·exfalso
   have h3:0<(r-p)+(q-w):=by grind
   have hu:=qbH (x:=r-p) (y:=(r-p)+(q-w)) (by grind) (by grind) h3
   refine key _ hu.1 hu.2 ?_
   have h4:(r-p)+(q-w)≠0:=by grind
   grind
 ·exact absurd (by grind) k0
 ·rcases Std.lt_trichotomy q w with d|d|d
  ·exfalso
   have h3:0<(p-r)+(w-q):=by grind
   have hu:=qbH (x:=p-r) (y:=(p-r)+(w-q)) (by grind) (by grind) h3
   refine key _ hu.1 hu.2 ?_
   have h4:(p-r)+(w-q)≠0:=by grind
   grind
  ·exact absurd (by grind) k1
  ·exact .inr ⟨c,d⟩
theorem qdz{u v:P2}{y:Rat}(h1:u.2<=y)(h2:y<=v.2)(h3:u.2<v.2):
  ∃t,(0<=t/\t<=1)/\(lin u v t).2=y/\ ∀p:P2,p.2=y->orQ u v p=(v.2-u.2)*((lin u v t).1-p.1):=by
 refine ⟨(y-u.2)/(v.2-u.2),qbH (by grind) (by grind) (by grind), ?_, ?_⟩
 ·simp only [lin]
  have:v.2-u.2≠0:=by grind
  grind
 ·intro p hp
  simp only [lin,orQ,hp]
  have:v.2-u.2≠0:=by grind
  grind
theorem qaz{x y:Rat}(h:0<x):0<x*y↔0<y:=by
 constructor
 ·intro h1
  rcases Std.lt_trichotomy y 0 with c|c|c
  ·have:=Rat.mul_pos h (show 0< -y by grind);grind
  ·rw [c] at h1;grind
  ·exact c
 ·exact Rat.mul_pos h
theorem qaS{x y:Rat}(h:0<x):x*y<0↔y<0:=by
 have:=qaz (y:= -y) h
 constructor
 ·intro h1;have:=this.1 (by grind);grind
 ·intro h1;have:=this.2 (by grind);grind
theorem qjB{a b u v:P2}(h:Disj a b u v)(hab:a.2<=b.2)(huv:u.2<=v.2):crI u v a-crI u v b=qj3 a b v-qj3 a b u:=by
 have e1:crI u v a=if u.2<=a.2/\a.2<v.2/\0<orQ u v a then 1 else 0:=by
  unfold crI;split
  ·rfl
  ·rw [if_neg (by grind)]
 have e2:crI u v b=if u.2<=b.2/\b.2<v.2/\0<orQ u v b then 1 else 0:=by
  unfold crI;split
  ·rfl
  ·rw [if_neg (by grind)]
 have e3: ∀p,qj3 a b p=if a.2<p.2/\p.2<=b.2/\orQ a b p<0 then 1 else 0:=by
  intro p
  unfold qj3;split
  ·rfl
  ·rw [if_neg (by grind)]
 rw [e1,e2,e3,e3]
 have z:(0:Rat)<=0/\(0:Rat)<=1:=by constructor<;>decide
 have o:(0:Rat)<=1/\(1:Rat)<=1:=by constructor<;>decide
 by_cases c1:v.2<=a.2
 ·rw [if_neg (by grind),if_neg (by grind),if_neg (by grind),if_neg (by grind)]
 by_cases c2:b.2<u.2
 ·rw [if_neg (by grind),if_neg (by grind),if_neg (by grind),if_neg (by grind)]
 by_cases c3:u.2<=a.2
 ·obtain ⟨t0,ht0,hy0,ho0⟩:=qdz c3 (show a.2<=v.2 by grind) (by grind)
  have k0:=ho0 a rfl
  by_cases c4:v.2<=b.2
  ·obtain ⟨s1,hs1,hy1,ho1⟩:=qdz (u:=a) (v:=b) (y:=v.2) (by grind) c4 (by grind)
   have k1:=ho1 v rfl
   have hs:=h.sep z hs1 ht0 o (by rw [qaw,hy0]) (by rw [qa6,hy1])
   rw [qaw,qa6] at hs
   have m1:=qaz (x:=v.2-u.2) (y:=(lin u v t0).1-a.1) (by grind)
   have m2:=qaS (x:=b.2-a.2) (y:=(lin a b s1).1-v.1) (by grind)
   rw [<-k0] at m1
   rw [<-k1] at m2
   rw [if_neg (c:=u.2<=b.2/\_) (by grind),if_neg (c:=a.2<u.2/\_) (by grind)]
   rcases hs with ⟨h1,h2⟩|⟨h1,h2⟩
   ·rw [if_pos ⟨c3,by grind,m1.2 (by grind)⟩,if_pos ⟨by grind,c4,m2.2 (by grind)⟩]
   ·rw [if_neg (fun hh=>by have:=m1.1 hh.2.2;grind),if_neg (fun hh=>by have:=m2.1 hh.2.2;grind)]
  ·obtain ⟨t1,ht1,hy1,ho1⟩:=qdz (u:=u) (v:=v) (y:=b.2) (by grind) (by grind) (by grind)
   have k1:=ho1 b rfl
   have hs:=h.sep z o ht0 ht1 (by rw [qaw,hy0]) (by rw [qa6,hy1])
   rw [qaw,qa6] at hs
   have m1:=qaz (x:=v.2-u.2) (y:=(lin u v t0).1-a.1) (by grind)
   have m2:=qaz (x:=v.2-u.2) (y:=(lin u v t1).1-b.1) (by grind)
   rw [<-k0] at m1
   rw [<-k1] at m2
   rw [if_neg (c:=a.2<u.2/\_) (by grind),if_neg (c:=a.2<v.2/\_) (by grind)]
   rcases hs with ⟨h1,h2⟩|⟨h1,h2⟩
   ·rw [if_pos ⟨c3,by grind,m1.2 (by grind)⟩,if_pos ⟨by grind,by grind,m2.2 (by grind)⟩];rfl
   ·rw [if_neg (fun hh=>by have:=m1.1 hh.2.2;grind),if_neg (fun hh=>by have:=m2.1 hh.2.2;grind)]
 ·obtain ⟨s0,hs0,hy0,ho0⟩:=qdz (u:=a) (v:=b) (y:=u.2) (by grind) (by grind) (by grind)
  have k0:=ho0 u rfl
  have m1:=qaS (x:=b.2-a.2) (y:=(lin a b s0).1-u.1) (by grind)
  rw [<-k0] at m1
  by_cases c4:v.2<=b.2
  ·obtain ⟨s1,hs1,hy1,ho1⟩:=qdz (u:=a) (v:=b) (y:=v.2) (by grind) c4 (by grind)
   have k1:=ho1 v rfl
   have hs:=h.sep hs0 hs1 z o (by rw [qaw,hy0]) (by rw [qa6,hy1])
   rw [qaw,qa6] at hs
   have m2:=qaS (x:=b.2-a.2) (y:=(lin a b s1).1-v.1) (by grind)
   rw [<-k1] at m2
   rw [if_neg (c:=u.2<=a.2/\_) (by grind),if_neg (c:=u.2<=b.2/\_) (by grind)]
   rcases hs with ⟨h1,h2⟩|⟨h1,h2⟩
   ·rw [if_pos ⟨by grind,by grind,m2.2 (by grind)⟩,if_pos ⟨by grind,by grind,m1.2 (by grind)⟩];rfl
   ·rw [if_neg (fun hh=>by have:=m2.1 hh.2.2;grind),if_neg (fun hh=>by have:=m1.1 hh.2.2;grind)]
  ·obtain ⟨t1,ht1,hy1,ho1⟩:=qdz (u:=u) (v:=v) (y:=b.2) (by grind) (by grind) (by grind)
   have k1:=ho1 b rfl
   have hs:=h.sep hs0 o z ht1 (by rw [qaw,hy0]) (by rw [qa6,hy1])
   rw [qaw,qa6] at hs
   have m2:=qaz (x:=v.2-u.2) (y:=(lin u v t1).1-b.1) (by grind)
   rw [<-k1] at m2
   rw [if_neg (c:=u.2<=a.2/\_) (by grind),if_neg (c:=a.2<v.2/\_) (by grind)]
   rcases hs with ⟨h1,h2⟩|⟨h1,h2⟩
   ·rw [if_pos ⟨by grind,by grind,m2.2 (by grind)⟩,if_pos ⟨by grind,by grind,m1.2 (by grind)⟩]
   ·rw [if_neg (fun hh=>by have:=m2.1 hh.2.2;grind),if_neg (fun hh=>by have:=m1.1 hh.2.2;grind)]
theorem qtJ{a b u v:P2}(h:Disj a b u v):crI u v a-crI u v b=qj3 a b v-qj3 a b u:=by
 rcases Std.le_total (a:=a.2) (b:=b.2) with h1|h1<;>rcases Std.le_total (a:=u.2) (b:=v.2) with h2|h2
 ·exact qjB h h1 h2
 ·have:=qjB h.swap2 h1 h2
  rw [qgP u v a,qgP u v b] at this;omega
 ·have:=qjB h.swap1 h1 h2
  rw [qfH a b u,qfH a b v] at this;omega
 ·have:=qjB h.swap1.swap2 h1 h2
  rw [qgP u v a,qgP u v b,qfH a b u,qfH a b v] at this;omega
end Nw
end
section
namespace N8
def lv:List Nat->Nat
 | [] =>0
 |x::l=>x+256*lv l
def Lim(l:List Nat):Prop:= ∀x∈l,x<256
def ln(n:Nat):List Nat:=if h:n=0 then [] else n%256::ln (n/256)
termination_by n
decreasing_by omega
theorem qaR:ln 0= [] :=by rw [ln];simp
theorem qco{n:Nat}(h:n≠0):ln n=n%256::ln (n/256):=by rw [ln,dif_neg h]
theorem qoI(n:Nat):lv (ln n)=n:=by
 induction n using Nat.strongRecOn with
 |ind n ih=>
  by_cases h:n=0
  ·subst h;rw [qaR];rfl
  ·rw [qco h,lv,ih _ (by omega)];omega
theorem qiD(n:Nat):Lim (ln n):=by
 induction n using Nat.strongRecOn with
 |ind n ih=>
  by_cases h:n=0
  ·subst h;rw [qaR];intro x hx;simp at hx
  ·rw [qco h]
   intro x hx
   rcases List.mem_cons.1 hx with rfl|hx
   ·omega
   ·exact ih _ (by omega) x hx
def qwe(l:List Nat):Prop:=l.getLast? ≠some 0
theorem qAk{l:List Nat}(hl:Lim l)(ht:qwe l):ln (lv l)=l:=by
 induction l with
 |nil=>rw [lv,qaR]
 |cons x l ih=>
  have hx:=hl x (List.mem_cons_self ..)
  have hl':Lim l:=fun y hy=>hl y (List.mem_cons_of_mem _ hy)
  have hne:lv (x::l)≠0:=by
   intro h0
   simp only [lv] at h0
   have hx0:x=0:=by omega
   have hl0:lv l=0:=by omega
   cases l with
   |nil=>subst hx0;exact ht rfl
   |cons y l=>
    have:ln (lv (y::l))=y::l:=ih hl' (by unfold qwe at*;simpa [List.getLast?_cons_cons] using ht)
    rw [hl0,qaR] at this
    simp at this
  rw [qco hne]
  simp only [lv]
  have h1:(x+256*lv l)%256=x:=by omega
  have h2:(x+256*lv l)/256=lv l:=by omega
  rw [h1,h2]
  congr 1
  cases l with
  |nil=>rw [lv,qaR]
  |cons y l=>exact ih hl' (by unfold qwe at*;simpa [List.getLast?_cons_cons] using ht)
theorem qhJ(a b:List Nat):lv (a++b)=lv a+256^a.length*lv b:=by
 induction a with
 |nil=>simp [lv]
 |cons x a ih=>simp only [List.cons_append,lv,ih,List.length_cons,Nat.pow_succ];grind
theorem qsI{l:List Nat}(h:Lim l):lv l<256^l.length:=by
 induction l with
 |nil=>simp [lv]
 |cons x l ih=>
  have h1:=h x (List.mem_cons_self ..)
  have h2:=ih fun y hy=>h y (List.mem_cons_of_mem _ hy)
  simp only [lv,List.length_cons,Nat.pow_succ]
  omega
theorem qgA(l:List Nat):lv (l++ [0])=lv l:=by rw [qhJ];simp [lv]
def dl:Nat->Nat->List Nat
 |0,_=> []
 |m+1,v=>v%256::dl m (v/256)
theorem dl_length(m v:Nat):(dl m v).length=m:=by induction m generalizing v<;>simp [dl, *]
theorem lim_dl(m v:Nat):Lim (dl m v):=by
 induction m generalizing v with
 |zero=>intro x hx;simp [dl] at hx
 |succ m ih=>
  intro x hx
  rcases List.mem_cons.1 hx with rfl|hx
  ·omega
  ·exact ih _ x hx
theorem lv_dl(m v:Nat):lv (dl m v)=v%256^m:=by
 induction m generalizing v with
 |zero=>simp [dl,lv,Nat.mod_one]
 |succ m ih=>rw [dl,lv,ih,Nat.pow_succ,Nat.mul_comm (256^m),Nat.mod_mul]
theorem dl_get{m i:Nat}(v:Nat)(h:i<m):(dl m v)[i]? =some (v/256^i%256):=by
 induction m generalizing i v with
 |zero=>omega
 |succ m ih=>
  cases i with
  |zero=>simp [dl]
  |succ i=>rw [dl,List.getElem?_cons_succ,ih _ (by omega),Nat.div_div_eq_div_mul,Nat.pow_succ,Nat.mul_comm 256]
theorem qgu{m:Nat}{l:List Nat}(hl:l.length=m)(v:Nat)(h: ∀i,i<m->l[i]? =some (v/256^i%256)):l=dl m v:=by
 apply List.ext_getElem?
 intro i
 by_cases hi:i<m
 ·rw [h i hi,dl_get v hi]
 ·rw [List.getElem?_eq_none (by omega),List.getElem?_eq_none (by rw [dl_length];omega)]
theorem qw7{l:List Nat}(hl:Lim l):dl l.length (lv l)=l:=by
 induction l with
 |nil=>rfl
 |cons x l ih=>
  have hx:=hl x (List.mem_cons_self ..)
  rw [List.length_cons,dl]
  simp only [lv]
  have h1:(x+256*lv l)%256=x:=by omega
  have h2:(x+256*lv l)/256=lv l:=by omega
  rw [h1,h2,ih fun y hy=>hl y (List.mem_cons_of_mem _ hy)]
theorem dl_zero(m:Nat):dl m 0=List.replicate m 0:=by
 induction m with
 |zero=>rfl
 |succ m ih=>simp [dl,ih,List.replicate_succ]
theorem qbD{m v:Nat}(h:v<256^m):(ln v).length<=m:=by
 induction m generalizing v with
 |zero=>
  have:v=0:=by simpa using h
  subst this;simp [qaR]
 |succ m ih=>
  by_cases hv:v=0
  ·subst hv;simp [qaR]
  ·rw [qco hv,List.length_cons]
   have:=ih (v:=v/256) (by rw [Nat.pow_succ] at h;exact Nat.div_lt_of_lt_mul (by rw [Nat.mul_comm];exact h))
   omega
theorem qm7{m v:Nat}(h:v<256^m)(h2:m≠0->256^(m-1)<=v):dl m v=ln v:=by
 induction m generalizing v with
 |zero=>
  have:v=0:=by simpa using h
  subst this;simp [dl,qaR]
 |succ m ih=>
  have h2':=h2 (by omega)
  simp at h2'
  have hv:v≠0:=by have:0<256^m:=Nat.pow_pos (by omega);omega
  rw [dl,qco hv]
  congr 1
  apply ih
  ·rw [Nat.pow_succ] at h;exact Nat.div_lt_of_lt_mul (by rw [Nat.mul_comm];exact h)
  ·intro hm
   rw [Nat.le_div_iff_mul_le (by omega)]
   have:256^(m-1)*256=256^m:=by rw [<-Nat.pow_succ];congr 1;omega
   omega
theorem qvM(a:Nat):dl (ln a).length a=ln a:=by
 have:=qw7 (qiD a);rwa [qoI] at this
theorem qtS{a i:Nat}(h:i<(ln a).length):(ln a)[i]? =some (a/256^i%256):=by
 have:=dl_get (m:=(ln a).length) a h
 rwa [qvM] at this
theorem qay(a:Nat):a<256^(ln a).length:=by
 have:=qsI (qiD a);rwa [qoI] at this
theorem qmA{a:Nat}(h:a≠0):256^((ln a).length-1)<=a:=by
 induction a using Nat.strongRecOn with
 |ind a ih=>
  rw [qco h,List.length_cons,Nat.add_sub_cancel]
  by_cases h2:a/256=0
  ·rw [h2,qaR];simp;omega
  ·have:=ih (a/256) (by omega) h2
   have hl:0<(ln (a/256)).length:=by
    rcases Nat.eq_zero_or_pos (ln (a/256)).length with h3|h3
    ·have:=qco h2
     rw [List.eq_nil_of_length_eq_zero h3] at this;simp at this
    ·exact h3
   have e:256^(ln (a/256)).length=256^((ln (a/256)).length-1)*256:=by rw [<-Nat.pow_succ];congr 1;omega
   rw [e];omega
theorem qek{a b:Nat}(h:(ln a).length<(ln b).length):a<b:=by
 have h1:=qay a
 have hb:b≠0:=by intro h0;subst h0;simp [qaR] at h
 have h2:=qmA hb
 have h3:256^(ln a).length<=256^((ln b).length-1):=Nat.pow_le_pow_right (by omega) (by omega)
 omega
theorem qa1{a b:Nat}(h:a<=b):(ln a).length<=(ln b).length:=by
 rcases Nat.lt_or_ge (ln b).length (ln a).length with h1|h1
 ·have:=qek h1;omega
 ·exact h1
theorem qbP{a:Nat}:(ln a).length=0↔a=0:=by
 constructor
 ·intro h
  rcases Nat.eq_zero_or_pos a with h0|h0
  ·exact h0
  ·have:=qco (n:=a) (by omega)
   rw [this] at h;simp at h
 ·rintro rfl;simp [qaR]
theorem qbj(a k:Nat):a/256^k=(a/256^(k+1))*256+a/256^k%256:=by
 rw [Nat.pow_succ, <-Nat.div_div_eq_div_mul];omega
theorem qgl{a b k:Nat}(h:a/256^k<b/256^k):a<b:=by
 rcases Nat.lt_or_ge a b with h1|h1
 ·exact h1
 ·have:=Nat.div_le_div_right (c:=256^k) h1;omega
theorem qrJ{a b k:Nat}(h:a/256^(k+1)=b/256^(k+1))(h2:a/256^k%256<b/256^k%256):a<b:=by
 apply qgl (k:=k)
 rw [qbj a,qbj b,h];omega
theorem qrL{a b k:Nat}(h:a/256^(k+1)=b/256^(k+1))(h2:a/256^k%256=b/256^k%256):a/256^k=b/256^k:=by
 rw [qbj a,qbj b,h];omega
theorem qeV(m v:Nat):dl (m+1) v=dl m v++ [v/256^m%256] :=by
 symm
 refine qgu (by simp [dl_length]) v fun i hi=> ?_
 rcases Nat.lt_or_ge i m with h|h
 ·rw [List.getElem?_append_left (by rw [dl_length];exact h),dl_get v h]
 ·have:i=m:=by omega
  subst this
  rw [List.getElem?_append_right (by rw [dl_length];exact Nat.le_refl _),dl_length];simp
theorem qbc(a i:Nat):a%256^(i+1)=a%256^i+256^i*(a/256^i%256):=by
 rw [Nat.pow_succ,Nat.mod_mul]
def car(a b i:Nat):Nat:=(a%256^i+b%256^i)/256^i
theorem car_le(a b i:Nat):car a b i<=1:=by
 have h:0<256^i:=Nat.pow_pos (by omega)
 have h1:=Nat.mod_lt a h
 have h2:=Nat.mod_lt b h
 unfold car
 have:(a%256^i+b%256^i)/256^i<2:=by
  rw [Nat.div_lt_iff_lt_mul h];omega
 omega
theorem car_step(a b i:Nat):(car a b i+a/256^i%256+b/256^i%256)%256=(a+b)/256^i%256/\
  (car a b i+a/256^i%256+b/256^i%256)/256=car a b (i+1):=by
 have h:0<256^i:=Nat.pow_pos (by omega)
 constructor
 ·have e:(a+b)/256^i=car a b i+(a/256^i+b/256^i):=by
   unfold car
   have:a+b=(a%256^i+b%256^i)+256^i*(a/256^i+b/256^i):=by
    rw [Nat.mul_add]
    have h1:=Nat.mod_add_div a (256^i)
    have h2:=Nat.mod_add_div b (256^i)
    omega
   conv=>lhs;rw [this]
   rw [Nat.add_mul_div_left _ _ h]
  rw [e];omega
 ·unfold car
  rw [qbc a,qbc b,Nat.pow_succ, <-Nat.div_div_eq_div_mul]
  have:a%256^i+256^i*(a/256^i%256)+(b%256^i+256^i*(b/256^i%256))=
   (a%256^i+b%256^i)+256^i*(a/256^i%256+b/256^i%256):=by rw [Nat.mul_add];omega
  rw [this,Nat.add_mul_div_left _ _ h,Nat.add_assoc]
theorem qcj{b i:Nat}(h:(ln b).length<=i):b/256^i=0:=
 Nat.div_eq_of_lt (Nat.lt_of_lt_of_le (qay b) (Nat.pow_le_pow_right (by omega) h))
theorem qbZ(i:Nat):0<256^i:=Nat.pow_pos (by omega)
def bor(a b i:Nat):Nat:=if a%256^i<b%256^i then 1 else 0
theorem sub_dig(a b i:Nat)(h:b<=a):((a/256^i%256:Nat)-(b/256^i%256:Nat)-(bor a b i:Nat):Int)%256=((a-b)/256^i%256:Nat):=by
 have hp:=qbZ i
 have e:((a-b)/256^i:Nat)+b/256^i+bor a b i=a/256^i:=by
  have h1:=Nat.mod_add_div a (256^i)
  have h2:=Nat.mod_add_div b (256^i)
  have l1:=Nat.mod_lt a hp
  have l2:=Nat.mod_lt b hp
  have hle:b/256^i<=a/256^i:=Nat.div_le_div_right h
  unfold bor
  generalize 256^i=p at*
  split
  ·rename_i hlt
   have hlt2:b/p<a/p:=by
    rcases Nat.lt_or_ge (b/p) (a/p) with h3|h3
    ·exact h3
    ·have:a/p=b/p:=by omega
     rw [this] at h1
     omega
   obtain ⟨d,hd⟩: ∃d,a/p=b/p+1+d:=⟨a/p-b/p-1,by omega⟩
   have:(a-b)/p=d:=by
    rw [Nat.div_eq_of_lt_le]
    ·have:p*(a/p)=p*(b/p)+p+p*d:=by rw [hd,Nat.mul_add,Nat.mul_add,Nat.mul_one]
     rw [Nat.mul_comm];omega
    ·have:p*(a/p)=p*(b/p)+p+p*d:=by rw [hd,Nat.mul_add,Nat.mul_add,Nat.mul_one]
     rw [Nat.mul_comm,Nat.mul_add,Nat.mul_one];omega
   omega
  ·rename_i hge
   obtain ⟨d,hd⟩: ∃d,a/p=b/p+d:=⟨a/p-b/p,by omega⟩
   have:(a-b)/p=d:=by
    rw [Nat.div_eq_of_lt_le]
    ·have:p*(a/p)=p*(b/p)+p*d:=by rw [hd,Nat.mul_add]
     rw [Nat.mul_comm];omega
    ·have:p*(a/p)=p*(b/p)+p*d:=by rw [hd,Nat.mul_add]
     rw [Nat.mul_comm,Nat.mul_add,Nat.mul_one];omega
   omega
 omega
theorem bor_step(a b i:Nat):bor a b (i+1)=if a/256^i%256<b/256^i%256+bor a b i then 1 else 0:=by
 have hp:=qbZ i
 have l1:=Nat.mod_lt a hp
 have l2:=Nat.mod_lt b hp
 unfold bor
 rw [qbc a,qbc b]
 generalize a/256^i%256=x
 generalize b/256^i%256=y
 generalize 256^i=p at*
 generalize a%p=r at*
 generalize b%p=s at*
 have key: ∀u v:Nat,u<v->p*u+p<=p*v:=fun u v h=>by have:=Nat.mul_le_mul_left p (show u+1<=v by omega);rw [Nat.mul_add] at this;omega
 by_cases h1:r<s
 ·rw [if_pos h1]
  by_cases h2:x<y+1
  ·rw [if_pos h2,if_pos]
   have:=Nat.mul_le_mul_left p (show x<=y by omega);omega
  ·rw [if_neg h2,if_neg]
   have:=key y x (by omega);omega
 ·rw [if_neg h1]
  by_cases h2:x<y+0
  ·rw [if_pos h2,if_pos]
   have:=key x y (by omega);omega
  ·rw [if_neg h2,if_neg]
   have:=Nat.mul_le_mul_left p (show y<=x by omega);omega
theorem bor_le(a b i:Nat):bor a b i=0\/bor a b i=1:=by unfold bor;split<;>simp
theorem qjQ(a b:Nat):bor a b 0=0:=by simp [bor,Nat.mod_one]
theorem dl_mod_set{m i:Nat}(v:Nat)(hi:i<m):(dl m (v%256^i)).set i (v/256^i%256)=dl m (v%256^(i+1)):=by
 refine qgu (by simp [dl_length]) _ fun j hj=> ?_
 rw [List.getElem?_set]
 by_cases h:i=j
 ·subst h
  rw [if_pos rfl,if_pos (by rw [dl_length];exact hj),qbc,Nat.add_mul_div_left _ _ (qbZ i),Nat.div_eq_of_lt (Nat.mod_lt _ (qbZ i))]
  simp
 ·rw [if_neg h,dl_get _ hj]
  congr 1
  rcases Nat.lt_or_ge j i with h1|h1
  ·have e: ∀k,j<k->v%256^k/256^j%256=v/256^j%256:=by
    intro k hk
    have h2:256^k=256^j*256^(k-j):=by rw [<-Nat.pow_add];congr 1;omega
    rw [h2,Nat.mod_mul_right_div_self]
    have h3:256^(k-j)=256*256^(k-j-1):=by rw [<-Nat.pow_succ'];congr 1;omega
    rw [h3,Nat.mod_mul_right_mod]
   rw [e i h1,e (i+1) (by omega)]
  ·have h2:256^(i+1)<=256^j:=Nat.pow_le_pow_right (by omega) (by omega)
   have h3:256^i<=256^j:=Nat.pow_le_pow_right (by omega) (by omega)
   rw [Nat.div_eq_of_lt (Nat.lt_of_lt_of_le (Nat.mod_lt _ (qbZ i)) h3),Nat.div_eq_of_lt (Nat.lt_of_lt_of_le (Nat.mod_lt _ (qbZ (i+1))) h2)]
theorem qhX(lo hi p j:Nat)(hj:j<p):(lo+hi*256^p)/256^j%256=lo/256^j%256:=by
 obtain ⟨d,hd⟩: ∃d,p=j+1+d:=⟨p-j-1,by omega⟩
 have e:hi*256^p=hi*256^d*256*256^j:=by
  rw [hd,Nat.pow_add,Nat.pow_add];simp only [Nat.pow_one];grind
 rw [e,Nat.add_mul_div_right _ _ (qbZ j),Nat.add_mul_mod_self_right]
theorem dl_set{m p d:Nat}(R:Nat)(hd:d<256):(dl m R).set p d=dl m (R%256^p+(d+R/256^(p+1)*256)*256^p):=by
 refine qgu (by simp [dl_length]) _ fun j hj=> ?_
 have hr:=Nat.mod_lt R (qbZ p)
 rw [List.getElem?_set]
 by_cases h:p=j
 ·subst h
  rw [if_pos rfl,if_pos (by rw [dl_length];exact hj)]
  congr 1
  rw [Nat.add_mul_div_right _ _ (qbZ p),Nat.div_eq_of_lt hr];omega
 ·rw [if_neg h,dl_get _ hj]
  congr 1
  rcases Nat.lt_or_ge j p with h1|h1
  ·rw [qhX _ _ _ _ h1]
   have:R=R%256^p+R/256^p*256^p:=by rw [Nat.mul_comm,Nat.mod_add_div]
   conv=>lhs;rw [this]
   rw [qhX _ _ _ _ h1]
  ·obtain ⟨e,he⟩: ∃e,j=p+1+e:=⟨j-p-1,by omega⟩
   have e1:(R%256^p+(d+R/256^(p+1)*256)*256^p)/256^(p+1)=R/256^(p+1):=by
    rw [Nat.pow_succ, <-Nat.div_div_eq_div_mul, <-Nat.div_div_eq_div_mul,Nat.add_mul_div_right _ _ (qbZ p),Nat.div_eq_of_lt hr];omega
   rw [he,Nat.pow_add, <-Nat.div_div_eq_div_mul, <-Nat.div_div_eq_div_mul,e1]
section
variable (a b i x:Nat)
def tU(T x b i k:Nat):Nat:=T%256^(i+k)+x*(b%256^k)*256^i
def tR(T x b i k:Nat):Nat:=tU T x b i k%256^(i+k)+T/256^(i+k)*256^(i+k)
def tC(T x b i k:Nat):Nat:=tU T x b i k/256^(i+k)
theorem tC_lt{T x b i k:Nat}(hx:x<256):tC T x b i k<256:=by
 unfold tC tU
 rw [Nat.div_lt_iff_lt_mul (qbZ _)]
 have h1:=Nat.mod_lt T (qbZ (i+k))
 have h2:=Nat.mod_lt b (qbZ k)
 have h3:x*(b%256^k)<=255*256^k:=Nat.mul_le_mul (by omega) (by omega)
 have h4:=Nat.mul_le_mul_right (256^i) h3
 have e:255*256^k*256^i=255*256^(i+k):=by rw [Nat.pow_add];grind
 omega
theorem qlq(T x b i k:Nat):tU T x b i (k+1)=tU T x b i k+(T/256^(i+k)%256+x*(b/256^k%256))*256^(i+k):=by
 unfold tU
 rw [show i+(k+1)=i+k+1 from rfl,qbc T,qbc b]
 have e:256^(i+k)=256^i*256^k:=Nat.pow_add ..
 rw [e];grind
theorem t_dig(T x b i k:Nat):tR T x b i k/256^(i+k)=T/256^(i+k):=by
 unfold tR
 rw [Nat.add_mul_div_right _ _ (qbZ _),Nat.div_eq_of_lt (Nat.mod_lt _ (qbZ _))];omega
theorem t_step(T x b i k:Nat):(tC T x b i k+(x*(b/256^k%256)+T/256^(i+k)%256))/256=tC T x b i (k+1)/\
  tR T x b i (k+1)=tR T x b i k%256^(i+k)+((tC T x b i k+(x*(b/256^k%256)+T/256^(i+k)%256))%256+tR T x b i k/256^(i+k+1)*256)*256^(i+k):=by
 have hU:=qlq T x b i k
 have hp:=qbZ (i+k)
 have eU:tU T x b i (k+1)/256^(i+k)=tC T x b i k+(x*(b/256^k%256)+T/256^(i+k)%256):=by
  rw [hU,Nat.add_mul_div_right _ _ hp];unfold tC;omega
 have eM:tU T x b i (k+1)%256^(i+k)=tU T x b i k%256^(i+k):=by rw [hU,Nat.add_mul_mod_self_right]
 constructor
 ·rw [<-eU]
  unfold tC
  rw [show i+(k+1)=i+k+1 from rfl,Nat.pow_succ, <-Nat.div_div_eq_div_mul]
 ·have hR:=t_dig T x b i k
  have e1:tR T x b i k/256^(i+k+1)=T/256^(i+k+1):=by
   rw [Nat.pow_succ, <-Nat.div_div_eq_div_mul, <-Nat.div_div_eq_div_mul,hR]
  have e2:tR T x b i k%256^(i+k)=tU T x b i k%256^(i+k):=by
   unfold tR;rw [Nat.add_mul_mod_self_right,Nat.mod_mod]
  rw [e1,e2, <-eU, <-eM]
  conv=>lhs;unfold tR
  rw [show i+(k+1)=i+k+1 from rfl,qbc (tU T x b i (k+1)) (i+k),Nat.pow_succ]
  generalize 256^(i+k)=p
  grind
theorem tR_zero(T x b i:Nat):tR T x b i 0=T:=by
 unfold tR tU
 simp only [Nat.add_zero,Nat.pow_zero,Nat.mod_one,Nat.mul_zero,Nat.zero_mul,Nat.mod_mod]
 rw [Nat.mul_comm,Nat.mod_add_div]
theorem tC_zero(T x b i:Nat):tC T x b i 0=0:=by
 unfold tC tU
 simp only [Nat.add_zero,Nat.pow_zero,Nat.mod_one,Nat.mul_zero,Nat.zero_mul]
 exact Nat.div_eq_of_lt (Nat.mod_lt _ (qbZ i))
theorem t_end{a b i n:Nat}(hb:b<256^n):
  let T:=(a%256^i)*b
  let x:=a/256^i%256
  tR T x b i n%256^(i+n)+(tC T x b i n+tR T x b i n/256^(i+n+1)*256)*256^(i+n)=(a%256^(i+1))*b:=by
 intro T x
 have hT:T<256^(i+n):=by
  rw [Nat.pow_add]
  exact Nat.mul_lt_mul'' (Nat.mod_lt _ (qbZ i)) hb
 have e0:tR T x b i n/256^(i+n+1)=0:=by
  rw [Nat.pow_succ, <-Nat.div_div_eq_div_mul,t_dig,Nat.div_eq_of_lt hT]
 have e2:tR T x b i n%256^(i+n)=tU T x b i n%256^(i+n):=by
  unfold tR;rw [Nat.add_mul_mod_self_right,Nat.mod_mod]
 rw [e0,e2,Nat.zero_mul,Nat.add_zero]
 unfold tC
 rw [Nat.mul_comm (_/_),Nat.mod_add_div]
 unfold tU
 rw [Nat.mod_eq_of_lt hT,Nat.mod_eq_of_lt hb,qbc a]
 show (a%256^i)*b+x*b*256^i=(a%256^i+256^i*x)*b
 grind
end
end N8
end
