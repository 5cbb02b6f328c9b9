import Derived.Test.YtdjbkccoofcnjaaGreatNvP2
import Derived.Test.YtdjbkccoofcnjaaGreatNvP1
set_option linter.all false
set_option maxRecDepth 100000
section
namespace Nw
end Nw
end
section
namespace N8
def lv:List Nat→Nat
 | [] =>0
 |x::l=>x+256*lv l
def Lim(l:List Nat):Prop:= ∀x∈l,x<256
def ln(n:Nat):List Nat:=if h:n=0 then [] else n%256::ln (n/256)
termination_by n
decreasing_by omega
theorem ln_zero:ln 0= [] :=by rw [ln];simp
theorem ln_pos{n:Nat}(h:n≠0):ln n=n%256::ln (n/256):=by rw [ln,dif_neg h]
theorem lv_ln(n:Nat):lv (ln n)=n:=by
 induction n using Nat.strongRecOn with
 |ind n ih=>
  by_cases h:n=0
  ·subst h;rw [ln_zero];rfl
  ·rw [ln_pos h,lv,ih _ (by omega)];omega
theorem lim_ln(n:Nat):Lim (ln n):=by
 induction n using Nat.strongRecOn with
 |ind n ih=>
  by_cases h:n=0
  ·subst h;rw [ln_zero];intro x hx;simp at hx
  ·rw [ln_pos h]
   intro x hx
   rcases List.mem_cons.1 hx with rfl|hx
   ·omega
   ·exact ih _ (by omega) x hx
def Trim(l:List Nat):Prop:=l.getLast? ≠some 0
theorem ln_lv{l:List Nat}(hl:Lim l)(ht:Trim l):ln (lv l)=l:=by
 induction l with
 |nil=>rw [lv,ln_zero]
 |cons x l ih=>
  have hx:=hl x (List.mem_cons_self ..)
  have hl':Lim l:=fun y hy=>hl y (List.mem_cons_of_mem _ hy)
  have hne:lv (x::l)≠0:=by
   intro h0
   simp only [lv] at h0
   have hx0:x=0:=by omega
   have hl0:lv l=0:=by omega
   cases l with
   |nil=>subst hx0;exact ht rfl
   |cons y l=>
    have:ln (lv (y::l))=y::l:=ih hl' (by unfold Trim at*;simpa [List.getLast?_cons_cons] using ht)
    rw [hl0,ln_zero] at this
    simp at this
  rw [ln_pos hne]
  simp only [lv]
  have h1:(x+256*lv l)%256=x:=by omega
  have h2:(x+256*lv l)/256=lv l:=by omega
  rw [h1,h2]
  congr 1
  cases l with
  |nil=>rw [lv,ln_zero]
  |cons y l=>exact ih hl' (by unfold Trim at*;simpa [List.getLast?_cons_cons] using ht)
theorem lv_append(a b:List Nat):lv (a++b)=lv a+256^a.length*lv b:=by
 induction a with
 |nil=>simp [lv]
 |cons x a ih=>simp only [List.cons_append,lv,ih,List.length_cons,Nat.pow_succ];grind
theorem lv_lt{l:List Nat}(h:Lim l):lv l<256^l.length:=by
 induction l with
 |nil=>simp [lv]
 |cons x l ih=>
  have h1:=h x (List.mem_cons_self ..)
  have h2:=ih fun y hy=>h y (List.mem_cons_of_mem _ hy)
  simp only [lv,List.length_cons,Nat.pow_succ]
  omega
theorem lv_snoc_zero(l:List Nat):lv (l++ [0])=lv l:=by rw [lv_append];simp [lv]
def dl:Nat→Nat→List Nat
 |0,_=> []
 |m+1,v=>v%256::dl m (v/256)
theorem dl_length(m v:Nat):(dl m v).length=m:=by induction m generalizing v<;>simp [dl, *]
theorem lim_dl(m v:Nat):Lim (dl m v):=by
 induction m generalizing v with
 |zero=>intro x hx;simp [dl] at hx
 |succ m ih=>
  intro x hx
  rcases List.mem_cons.1 hx with rfl|hx
  ·omega
  ·exact ih _ x hx
theorem lv_dl(m v:Nat):lv (dl m v)=v%256^m:=by
 induction m generalizing v with
 |zero=>simp [dl,lv,Nat.mod_one]
 |succ m ih=>rw [dl,lv,ih,Nat.pow_succ,Nat.mul_comm (256^m),Nat.mod_mul]
theorem dl_get{m i:Nat}(v:Nat)(h:i<m):(dl m v)[i]? =some (v/256^i%256):=by
 induction m generalizing i v with
 |zero=>omega
 |succ m ih=>
  cases i with
  |zero=>simp [dl]
  |succ i=>rw [dl,List.getElem?_cons_succ,ih _ (by omega),Nat.div_div_eq_div_mul,Nat.pow_succ,Nat.mul_comm 256]
theorem dl_ext{m:Nat}{l:List Nat}(hl:l.length=m)(v:Nat)(h: ∀i,i<m→l[i]? =some (v/256^i%256)):l=dl m v:=by
 apply List.ext_getElem?
 intro i
 by_cases hi:i<m
 ·rw [h i hi,dl_get v hi]
 ·rw [List.getElem?_eq_none (by omega),List.getElem?_eq_none (by rw [dl_length];omega)]
theorem dl_lv{l:List Nat}(hl:Lim l):dl l.length (lv l)=l:=by
 induction l with
 |nil=>rfl
 |cons x l ih=>
  have hx:=hl x (List.mem_cons_self ..)
  rw [List.length_cons,dl]
  simp only [lv]
  have h1:(x+256*lv l)%256=x:=by omega
  have h2:(x+256*lv l)/256=lv l:=by omega
  rw [h1,h2,ih fun y hy=>hl y (List.mem_cons_of_mem _ hy)]
theorem dl_zero(m:Nat):dl m 0=List.replicate m 0:=by
 induction m with
 |zero=>rfl
 |succ m ih=>simp [dl,ih,List.replicate_succ]
theorem ln_length_le{m v:Nat}(h:v<256^m):(ln v).length≤m:=by
 induction m generalizing v with
 |zero=>
  have:v=0:=by simpa using h
  subst this;simp [ln_zero]
 |succ m ih=>
  by_cases hv:v=0
  ·subst hv;simp [ln_zero]
  ·rw [ln_pos hv,List.length_cons]
   have:=ih (v:=v/256) (by rw [Nat.pow_succ] at h;exact Nat.div_lt_of_lt_mul (by rw [Nat.mul_comm];exact h))
   omega
theorem dl_eq_ln{m v:Nat}(h:v<256^m)(h2:m≠0→256^(m-1)≤v):dl m v=ln v:=by
 induction m generalizing v with
 |zero=>
  have:v=0:=by simpa using h
  subst this;simp [dl,ln_zero]
 |succ m ih=>
  have h2':=h2 (by omega)
  simp at h2'
  have hv:v≠0:=by have:0<256^m:=Nat.pow_pos (by omega);omega
  rw [dl,ln_pos hv]
  congr 1
  apply ih
  ·rw [Nat.pow_succ] at h;exact Nat.div_lt_of_lt_mul (by rw [Nat.mul_comm];exact h)
  ·intro hm
   rw [Nat.le_div_iff_mul_le (by omega)]
   have:256^(m-1)*256=256^m:=by rw [←Nat.pow_succ];congr 1;omega
   omega
theorem ln_dl(a:Nat):dl (ln a).length a=ln a:=by
 have:=dl_lv (lim_ln a);rwa [lv_ln] at this
theorem ln_get{a i:Nat}(h:i<(ln a).length):(ln a)[i]? =some (a/256^i%256):=by
 have:=dl_get (m:=(ln a).length) a h
 rwa [ln_dl] at this
theorem ln_high(a:Nat):a<256^(ln a).length:=by
 have:=lv_lt (lim_ln a);rwa [lv_ln] at this
theorem ln_low{a:Nat}(h:a≠0):256^((ln a).length-1)≤a:=by
 induction a using Nat.strongRecOn with
 |ind a ih=>
  rw [ln_pos h,List.length_cons,Nat.add_sub_cancel]
  by_cases h2:a/256=0
  ·rw [h2,ln_zero];simp;omega
  ·have:=ih (a/256) (by omega) h2
   have hl:0<(ln (a/256)).length:=by
    rcases Nat.eq_zero_or_pos (ln (a/256)).length with h3|h3
    ·have:=ln_pos h2
     rw [List.eq_nil_of_length_eq_zero h3] at this;simp at this
    ·exact h3
   have e:256^(ln (a/256)).length=256^((ln (a/256)).length-1)*256:=by rw [←Nat.pow_succ];congr 1;omega
   rw [e];omega
theorem ln_len_lt{a b:Nat}(h:(ln a).length<(ln b).length):a<b:=by
 have h1:=ln_high a
 have hb:b≠0:=by intro h0;subst h0;simp [ln_zero] at h
 have h2:=ln_low hb
 have h3:256^(ln a).length≤256^((ln b).length-1):=Nat.pow_le_pow_right (by omega) (by omega)
 omega
theorem ln_len_mono{a b:Nat}(h:a≤b):(ln a).length≤(ln b).length:=by
 rcases Nat.lt_or_ge (ln b).length (ln a).length with h1|h1
 ·have:=ln_len_lt h1;omega
 ·exact h1
theorem ln_len_eq_zero{a:Nat}:(ln a).length=0↔a=0:=by
 constructor
 ·intro h
  rcases Nat.eq_zero_or_pos a with h0|h0
  ·exact h0
  ·have:=ln_pos (n:=a) (by omega)
   rw [this] at h;simp at h
 ·rintro rfl;simp [ln_zero]
theorem div_step(a k:Nat):a/256^k=(a/256^(k+1))*256+a/256^k%256:=by
 rw [Nat.pow_succ, ←Nat.div_div_eq_div_mul];omega
theorem div_lt_imp{a b k:Nat}(h:a/256^k<b/256^k):a<b:=by
 rcases Nat.lt_or_ge a b with h1|h1
 ·exact h1
 ·have:=Nat.div_le_div_right (c:=256^k) h1;omega
theorem dig_lt{a b k:Nat}(h:a/256^(k+1)=b/256^(k+1))(h2:a/256^k%256<b/256^k%256):a<b:=by
 apply div_lt_imp (k:=k)
 rw [div_step a,div_step b,h];omega
theorem dig_eq'{a b k:Nat}(h:a/256^(k+1)=b/256^(k+1))(h2:a/256^k%256=b/256^k%256):a/256^k=b/256^k:=by
 rw [div_step a,div_step b,h];omega
theorem dl_snoc(m v:Nat):dl (m+1) v=dl m v++ [v/256^m%256] :=by
 symm
 refine dl_ext (by simp [dl_length]) v fun i hi=> ?_
 rcases Nat.lt_or_ge i m with h|h
 ·rw [List.getElem?_append_left (by rw [dl_length];exact h),dl_get v h]
 ·have:i=m:=by omega
  subst this
  rw [List.getElem?_append_right (by rw [dl_length];exact Nat.le_refl _),dl_length];simp
theorem mod_dig(a i:Nat):a%256^(i+1)=a%256^i+256^i*(a/256^i%256):=by
 rw [Nat.pow_succ,Nat.mod_mul]
def car(a b i:Nat):Nat:=(a%256^i+b%256^i)/256^i
theorem car_le(a b i:Nat):car a b i≤1:=by
 have h:0<256^i:=Nat.pow_pos (by omega)
 have h1:=Nat.mod_lt a h
 have h2:=Nat.mod_lt b h
 unfold car
 have:(a%256^i+b%256^i)/256^i<2:=by
  rw [Nat.div_lt_iff_lt_mul h];omega
 omega
theorem car_step(a b i:Nat):(car a b i+a/256^i%256+b/256^i%256)%256=(a+b)/256^i%256∧
  (car a b i+a/256^i%256+b/256^i%256)/256=car a b (i+1):=by
 have h:0<256^i:=Nat.pow_pos (by omega)
 constructor
 ·have e:(a+b)/256^i=car a b i+(a/256^i+b/256^i):=by
   unfold car
   have:a+b=(a%256^i+b%256^i)+256^i*(a/256^i+b/256^i):=by
    rw [Nat.mul_add]
    have h1:=Nat.mod_add_div a (256^i)
    have h2:=Nat.mod_add_div b (256^i)
    omega
   conv=>lhs;rw [this]
   rw [Nat.add_mul_div_left _ _ h]
  rw [e];omega
 ·unfold car
  rw [mod_dig a,mod_dig b,Nat.pow_succ, ←Nat.div_div_eq_div_mul]
  have:a%256^i+256^i*(a/256^i%256)+(b%256^i+256^i*(b/256^i%256))=
   (a%256^i+b%256^i)+256^i*(a/256^i%256+b/256^i%256):=by rw [Nat.mul_add];omega
  rw [this,Nat.add_mul_div_left _ _ h,Nat.add_assoc]
theorem div_zero_of{b i:Nat}(h:(ln b).length≤i):b/256^i=0:=
 Nat.div_eq_of_lt (Nat.lt_of_lt_of_le (ln_high b) (Nat.pow_le_pow_right (by omega) h))
theorem bpos(i:Nat):0<256^i:=Nat.pow_pos (by omega)
def bor(a b i:Nat):Nat:=if a%256^i<b%256^i then 1 else 0
theorem sub_dig(a b i:Nat)(h:b≤a):((a/256^i%256:Nat)-(b/256^i%256:Nat)-(bor a b i:Nat):Int)%256=((a-b)/256^i%256:Nat):=by
 have hp:=bpos i
 have e:((a-b)/256^i:Nat)+b/256^i+bor a b i=a/256^i:=by
  have h1:=Nat.mod_add_div a (256^i)
  have h2:=Nat.mod_add_div b (256^i)
  have l1:=Nat.mod_lt a hp
  have l2:=Nat.mod_lt b hp
  have hle:b/256^i≤a/256^i:=Nat.div_le_div_right h
  unfold bor
  generalize 256^i=p at*
  split
  ·rename_i hlt
   have hlt2:b/p<a/p:=by
    rcases Nat.lt_or_ge (b/p) (a/p) with h3|h3
    ·exact h3
    ·have:a/p=b/p:=by omega
     rw [this] at h1
     omega
   obtain ⟨d,hd⟩: ∃d,a/p=b/p+1+d:=⟨a/p-b/p-1,by omega⟩
   have:(a-b)/p=d:=by
    rw [Nat.div_eq_of_lt_le]
    ·have:p*(a/p)=p*(b/p)+p+p*d:=by rw [hd,Nat.mul_add,Nat.mul_add,Nat.mul_one]
     rw [Nat.mul_comm];omega
    ·have:p*(a/p)=p*(b/p)+p+p*d:=by rw [hd,Nat.mul_add,Nat.mul_add,Nat.mul_one]
     rw [Nat.mul_comm,Nat.mul_add,Nat.mul_one];omega
   omega
  ·rename_i hge
   obtain ⟨d,hd⟩: ∃d,a/p=b/p+d:=⟨a/p-b/p,by omega⟩
   have:(a-b)/p=d:=by
    rw [Nat.div_eq_of_lt_le]
    ·have:p*(a/p)=p*(b/p)+p*d:=by rw [hd,Nat.mul_add]
     rw [Nat.mul_comm];omega
    ·have:p*(a/p)=p*(b/p)+p*d:=by rw [hd,Nat.mul_add]
     rw [Nat.mul_comm,Nat.mul_add,Nat.mul_one];omega
   omega
 omega
theorem bor_step(a b i:Nat):bor a b (i+1)=if a/256^i%256<b/256^i%256+bor a b i then 1 else 0:=by
 have hp:=bpos i
 have l1:=Nat.mod_lt a hp
 have l2:=Nat.mod_lt b hp
 unfold bor
 rw [mod_dig a,mod_dig b]
 generalize a/256^i%256=x
 generalize b/256^i%256=y
 generalize 256^i=p at*
 generalize a%p=r at*
 generalize b%p=s at*
 have key: ∀u v:Nat,u<v→p*u+p≤p*v:=fun u v h=>by have:=Nat.mul_le_mul_left p (show u+1≤v by omega);rw [Nat.mul_add] at this;omega
 by_cases h1:r<s
 ·rw [if_pos h1]
  by_cases h2:x<y+1
  ·rw [if_pos h2,if_pos]
   have:=Nat.mul_le_mul_left p (show x≤y by omega);omega
  ·rw [if_neg h2,if_neg]
   have:=key y x (by omega);omega
 ·rw [if_neg h1]
  by_cases h2:x<y+0
  ·rw [if_pos h2,if_pos]
   have:=key x y (by omega);omega
  ·rw [if_neg h2,if_neg]
   have:=Nat.mul_le_mul_left p (show y≤x by omega);omega
theorem bor_le(a b i:Nat):bor a b i=0∨bor a b i=1:=by unfold bor;split<;>simp
theorem bor_zero(a b:Nat):bor a b 0=0:=by simp [bor,Nat.mod_one]
theorem dl_mod_set{m i:Nat}(v:Nat)(hi:i<m):(dl m (v%256^i)).set i (v/256^i%256)=dl m (v%256^(i+1)):=by
 refine dl_ext (by simp [dl_length]) _ fun j hj=> ?_
 rw [List.getElem?_set]
 by_cases h:i=j
 ·subst h
  rw [if_pos rfl,if_pos (by rw [dl_length];exact hj),mod_dig,Nat.add_mul_div_left _ _ (bpos i),Nat.div_eq_of_lt (Nat.mod_lt _ (bpos i))]
  simp
 ·rw [if_neg h,dl_get _ hj]
  congr 1
  rcases Nat.lt_or_ge j i with h1|h1
  ·have e: ∀k,j<k→v%256^k/256^j%256=v/256^j%256:=by
    intro k hk
    have h2:256^k=256^j*256^(k-j):=by rw [←Nat.pow_add];congr 1;omega
    rw [h2,Nat.mod_mul_right_div_self]
    have h3:256^(k-j)=256*256^(k-j-1):=by rw [←Nat.pow_succ'];congr 1;omega
    rw [h3,Nat.mod_mul_right_mod]
   rw [e i h1,e (i+1) (by omega)]
  ·have h2:256^(i+1)≤256^j:=Nat.pow_le_pow_right (by omega) (by omega)
   have h3:256^i≤256^j:=Nat.pow_le_pow_right (by omega) (by omega)
   rw [Nat.div_eq_of_lt (Nat.lt_of_lt_of_le (Nat.mod_lt _ (bpos i)) h3),Nat.div_eq_of_lt (Nat.lt_of_lt_of_le (Nat.mod_lt _ (bpos (i+1))) h2)]
theorem dig_low(lo hi p j:Nat)(hj:j<p):(lo+hi*256^p)/256^j%256=lo/256^j%256:=by
 obtain ⟨d,hd⟩: ∃d,p=j+1+d:=⟨p-j-1,by omega⟩
 have e:hi*256^p=hi*256^d*256*256^j:=by
  rw [hd,Nat.pow_add,Nat.pow_add];simp only [Nat.pow_one];grind
 rw [e,Nat.add_mul_div_right _ _ (bpos j),Nat.add_mul_mod_self_right]
theorem dl_set{m p d:Nat}(R:Nat)(hd:d<256):(dl m R).set p d=dl m (R%256^p+(d+R/256^(p+1)*256)*256^p):=by
 refine dl_ext (by simp [dl_length]) _ fun j hj=> ?_
 have hr:=Nat.mod_lt R (bpos p)
 rw [List.getElem?_set]
 by_cases h:p=j
 ·subst h
  rw [if_pos rfl,if_pos (by rw [dl_length];exact hj)]
  congr 1
  rw [Nat.add_mul_div_right _ _ (bpos p),Nat.div_eq_of_lt hr];omega
 ·rw [if_neg h,dl_get _ hj]
  congr 1
  rcases Nat.lt_or_ge j p with h1|h1
  ·rw [dig_low _ _ _ _ h1]
   have:R=R%256^p+R/256^p*256^p:=by rw [Nat.mul_comm,Nat.mod_add_div]
   conv=>lhs;rw [this]
   rw [dig_low _ _ _ _ h1]
  ·obtain ⟨e,he⟩: ∃e,j=p+1+e:=⟨j-p-1,by omega⟩
   have e1:(R%256^p+(d+R/256^(p+1)*256)*256^p)/256^(p+1)=R/256^(p+1):=by
    rw [Nat.pow_succ, ←Nat.div_div_eq_div_mul, ←Nat.div_div_eq_div_mul,Nat.add_mul_div_right _ _ (bpos p),Nat.div_eq_of_lt hr];omega
   rw [he,Nat.pow_add, ←Nat.div_div_eq_div_mul, ←Nat.div_div_eq_div_mul,e1]
section
variable (a b i x:Nat)
def tU(T x b i k:Nat):Nat:=T%256^(i+k)+x*(b%256^k)*256^i
def tR(T x b i k:Nat):Nat:=tU T x b i k%256^(i+k)+T/256^(i+k)*256^(i+k)
def tC(T x b i k:Nat):Nat:=tU T x b i k/256^(i+k)
theorem tC_lt{T x b i k:Nat}(hx:x<256):tC T x b i k<256:=by
 unfold tC tU
 rw [Nat.div_lt_iff_lt_mul (bpos _)]
 have h1:=Nat.mod_lt T (bpos (i+k))
 have h2:=Nat.mod_lt b (bpos k)
 have h3:x*(b%256^k)≤255*256^k:=Nat.mul_le_mul (by omega) (by omega)
 have h4:=Nat.mul_le_mul_right (256^i) h3
 have e:255*256^k*256^i=255*256^(i+k):=by rw [Nat.pow_add];grind
 omega
theorem tU_step(T x b i k:Nat):tU T x b i (k+1)=tU T x b i k+(T/256^(i+k)%256+x*(b/256^k%256))*256^(i+k):=by
 unfold tU
 rw [show i+(k+1)=i+k+1 from rfl,mod_dig T,mod_dig b]
 have e:256^(i+k)=256^i*256^k:=Nat.pow_add ..
 rw [e];grind
theorem t_dig(T x b i k:Nat):tR T x b i k/256^(i+k)=T/256^(i+k):=by
 unfold tR
 rw [Nat.add_mul_div_right _ _ (bpos _),Nat.div_eq_of_lt (Nat.mod_lt _ (bpos _))];omega
theorem t_step(T x b i k:Nat):(tC T x b i k+(x*(b/256^k%256)+T/256^(i+k)%256))/256=tC T x b i (k+1)∧
  tR T x b i (k+1)=tR T x b i k%256^(i+k)+((tC T x b i k+(x*(b/256^k%256)+T/256^(i+k)%256))%256+tR T x b i k/256^(i+k+1)*256)*256^(i+k):=by
 have hU:=tU_step T x b i k
 have hp:=bpos (i+k)
 have eU:tU T x b i (k+1)/256^(i+k)=tC T x b i k+(x*(b/256^k%256)+T/256^(i+k)%256):=by
  rw [hU,Nat.add_mul_div_right _ _ hp];unfold tC;omega
 have eM:tU T x b i (k+1)%256^(i+k)=tU T x b i k%256^(i+k):=by rw [hU,Nat.add_mul_mod_self_right]
 constructor
 ·rw [←eU]
  unfold tC
  rw [show i+(k+1)=i+k+1 from rfl,Nat.pow_succ, ←Nat.div_div_eq_div_mul]
 ·have hR:=t_dig T x b i k
  have e1:tR T x b i k/256^(i+k+1)=T/256^(i+k+1):=by
   rw [Nat.pow_succ, ←Nat.div_div_eq_div_mul, ←Nat.div_div_eq_div_mul,hR]
  have e2:tR T x b i k%256^(i+k)=tU T x b i k%256^(i+k):=by
   unfold tR;rw [Nat.add_mul_mod_self_right,Nat.mod_mod]
  rw [e1,e2, ←eU, ←eM]
  conv=>lhs;unfold tR
  rw [show i+(k+1)=i+k+1 from rfl,mod_dig (tU T x b i (k+1)) (i+k),Nat.pow_succ]
  generalize 256^(i+k)=p
  grind
theorem tR_zero(T x b i:Nat):tR T x b i 0=T:=by
 unfold tR tU
 simp only [Nat.add_zero,Nat.pow_zero,Nat.mod_one,Nat.mul_zero,Nat.zero_mul,Nat.mod_mod]
 rw [Nat.mul_comm,Nat.mod_add_div]
theorem tC_zero(T x b i:Nat):tC T x b i 0=0:=by
 unfold tC tU
 simp only [Nat.add_zero,Nat.pow_zero,Nat.mod_one,Nat.mul_zero,Nat.zero_mul]
 exact Nat.div_eq_of_lt (Nat.mod_lt _ (bpos i))
theorem t_end{a b i n:Nat}(hb:b<256^n):
  let T:=(a%256^i)*b
  let x:=a/256^i%256
  tR T x b i n%256^(i+n)+(tC T x b i n+tR T x b i n/256^(i+n+1)*256)*256^(i+n)=(a%256^(i+1))*b:=by
 intro T x
 have hT:T<256^(i+n):=by
  rw [Nat.pow_add]
  exact Nat.mul_lt_mul'' (Nat.mod_lt _ (bpos i)) hb
 have e0:tR T x b i n/256^(i+n+1)=0:=by
  rw [Nat.pow_succ, ←Nat.div_div_eq_div_mul,t_dig,Nat.div_eq_of_lt hT]
 have e2:tR T x b i n%256^(i+n)=tU T x b i n%256^(i+n):=by
  unfold tR;rw [Nat.add_mul_mod_self_right,Nat.mod_mod]
 rw [e0,e2,Nat.zero_mul,Nat.add_zero]
 unfold tC
 rw [Nat.mul_comm (_/_),Nat.mod_add_div]
 unfold tU
 rw [Nat.mod_eq_of_lt hT,Nat.mod_eq_of_lt hb,mod_dig a]
 show (a%256^i)*b+x*b*256^i=(a%256^i+256^i*x)*b
 grind
end
end N8
end
