import Derived.Test.YtdjbkccoofcnjaaGreatNvC4
import Derived.Test.YtdjbkccoofcnjaaGreatNvP1
import Derived.Test.YtdjbkccoofcnjaaGreatNvN5
set_option linter.all false
set_option maxRecDepth 100000
section
namespace Go.Nv
open Go.Proofs Nw
theorem val_eq(r:RD):r.val=mkRat (sg r.neg (bv r.num)) (dv r.den):=rfl
theorem dv_ne(t:ByteArray):dv t≠0:=Nat.ne_of_gt (dv_pos t)
@[irreducible] def cmpI(p q:Rat):Int:=cmpQ p q
@[irreducible] def sgnI(p:Rat):Int:=sgnQ p
theorem cmpI_eq(p q:Rat):cmpI p q=cmpQ p q:=by unfold cmpI;rfl
theorem sgnI_eq(p:Rat):sgnI p=sgnQ p:=by unfold sgnI;rfl
theorem toNat_mul(a b:Nat):((a:Int)*(b:Int)).toNat=a*b:=by rw [←Int.natCast_mul];rfl
theorem add_r(r s:RD)(hr:Sz r)(hs:Sz s):Fun Tryz.prog 16 [rdD r,rdD s] [ratD (r.val+s.val)] :=by
 have e:r.val+s.val=mkRat (sg r.neg (bv r.num)*dv s.den+sg s.neg (bv s.num)*dv r.den) (dv r.den*dv s.den):=by
  rw [val_eq,val_eq,Rat.mkRat_add_mkRat _ _ (dv_ne _) (dv_ne _)]
 have hb:=both_c r s 64 66 (r.val+s.val) hr hs (fun h1 h2=>by
  have:=add1_c (smN r) (smD r) (smN s) (smD s) (smN_bd h1) (smD_bd h1) (smN_bd h2) (smD_bd h2)
  rw [show (smD r*smD s).toNat=dv r.den*dv s.den by rw [smD_yes h1,smD_yes h2,toNat_mul]] at this
  rwa [e, ←smN_yes h1, ←smN_yes h2, ←smD_yes h1, ←smD_yes h2]) (by rw [e];exact add2_c r s hr hs)
 refine fun_of_go (fun t=>t==4) mixed tOk Tryz.func16 rfl rfl ?_
 conv=>whnf
 refine call_data rfl rfl hb ?_
 conv=>whnf
 refine ⟨?_,trivial⟩
 conv=>whnf
 exact ⟨rfl,rfl,rfl,trivial⟩
theorem mul_r(r s:RD)(hr:Sz r)(hs:Sz s):Fun Tryz.prog 17 [rdD r,rdD s] [ratD (r.val*s.val)] :=by
 have e:r.val*s.val=mkRat (sg r.neg (bv r.num)*sg s.neg (bv s.num)) (dv r.den*dv s.den):=by
  rw [val_eq,val_eq,Rat.mkRat_mul_mkRat]
 have hb:=both_c r s 69 70 (r.val*s.val) hr hs (fun h1 h2=>by
  have:=mul1_c (smN r) (smD r) (smN s) (smD s) (smN_bd h1) (smD_bd h1) (smN_bd h2) (smD_bd h2)
  rw [show (smD r*smD s).toNat=dv r.den*dv s.den by rw [smD_yes h1,smD_yes h2,toNat_mul]] at this
  rwa [e, ←smN_yes h1, ←smN_yes h2]) (by rw [e];exact mul2_c r s hr hs)
 refine fun_of_go (fun t=>t==4) mixed tOk Tryz.func17 rfl rfl ?_
 conv=>whnf
 refine call_data rfl rfl hb ?_
 conv=>whnf
 refine ⟨?_,trivial⟩
 conv=>whnf
 exact ⟨rfl,rfl,rfl,trivial⟩
theorem cmp_val(r s:RD):cmpI r.val s.val=cmpZ (sg r.neg (bv r.num)*dv s.den) (sg s.neg (bv s.num)*dv r.den):=by
 rw [cmpI_eq]
 unfold cmpQ cmpZ
 rw [val_eq,val_eq]
 simp only [mkRat_lt (dv_ne _) (dv_ne _)]
theorem compare_r(r s:RD)(hr:Sz r)(hs:Sz s):Fun Tryz.prog 34 [rdD r,rdD s] [i64 (cmpI r.val s.val)] :=by
 have e:=cmp_val r s
 have hb:=bothI_c r s 98 99 (cmpI r.val s.val) hr hs (fun h1 h2=>by
  have:=cmp1_c (smN r) (smD r) (smN s) (smD s) (smN_bd h1) (smD_bd h1) (smN_bd h2) (smD_bd h2)
  rwa [e, ←smN_yes h1, ←smN_yes h2, ←smD_yes h1, ←smD_yes h2]) (by rw [e];exact cmp2_c r s hr hs)
 refine fun_of_go (fun t=>false) mixed tOk Tryz.func34 rfl rfl ?_
 conv=>whnf
 refine call_data rfl rfl hb ?_
 conv=>whnf
 refine ⟨?_,trivial⟩
 conv=>whnf
theorem sub_r(r s:RD)(hr:Sz r)(hs:Sz s):Fun Tryz.prog 59 [rdD r,rdD s] [ratD (r.val-s.val)] :=by
 have e:r.val+(⟨!s.neg,s.num,s.den⟩:RD).val=r.val-s.val:=by
  rw [Rat.sub_eq_add_neg]
  congr 1
  rw [val_eq,val_eq,Rat.neg_mkRat]
  congr 1
  unfold sg;cases s.neg<;>simp
 refine fun_of_go (fun t=>t==3||t==4) mixed tOk Tryz.func59 rfl rfl ?_
 conv=>whnf
 refine call_eq rfl rfl (add_r r ⟨!s.neg,s.num,s.den⟩ hr hs) (by rw [bnot_eq];rfl) ?_
 conv=>whnf
 rw [e]
 refine ⟨?_,trivial⟩
 conv=>whnf
 exact ⟨rfl,rfl,rfl,trivial⟩
theorem neg_r(r:RD)(hr:Sz r):Fun Tryz.prog 80 [rdD r] [ratD (-r.val)] :=by
 have e:mkRat (sg (!r.neg) (bv r.num)) (bv (dn r.den))= -r.val:=by
  rw [val_eq,Rat.neg_mkRat,bv_dn]
  congr 1
  unfold sg;cases r.neg<;>simp
 obtain ⟨hr1,hr2⟩:=hr
 have z1:=dn_size r.den
 refine fun_of_go (fun t=>t==1||t==2) mixed tOk Tryz.func80 rfl rfl ?_
 conv=>whnf
 refine call_eq rfl rfl (of_c2 ⟨!r.neg,r.num,r.den⟩ (by show r.den.size<_;omega)) (by rw [bnot_eq];rfl) ?_
 conv=>whnf
 refine call_data rfl rfl (number_c (!r.neg) r.num false (dn r.den) rfl (by rw [bv_dn];exact dv_ne _) (by omega) (by omega)) ?_
 conv=>whnf
 rw [e]
 refine ⟨?_,trivial⟩
 conv=>whnf
 exact ⟨rfl,rfl,rfl,trivial⟩
theorem number_r(r:RD)(hr:Sz r):Fun Tryz.prog 62 [ofD r] [ratD r.val] :=by
 have z1:=dn_size r.den
 obtain ⟨hr1,hr2⟩:=hr
 have:=number_c r.neg r.num false (dn r.den) rfl (by rw [bv_dn];exact dv_ne _) (by omega) (by omega)
 rwa [bv_dn] at this
theorem sign_r(r:RD)(hr:Sz r):Fun Tryz.prog 33 [rdD r] [i64 (sgnI r.val)] :=by
 have e:cmpZ (sg r.neg (bv r.num)) (sg false (bv ⟨#[]⟩))=sgnI r.val:=by
  rw [sgnI_eq]
  unfold cmpZ sgnQ
  rw [val_eq]
  simp only [mkRat_neg (dv_ne _),mkRat_pos (dv_ne _)]
  rfl
 obtain ⟨hr1,hr2⟩:=hr
 refine fun_of_go (fun t=>false) mixed tOk Tryz.func33 rfl rfl ?_
 conv=>whnf
 refine call_data rfl rfl (of_c2 r (by omega)) ?_
 conv=>whnf
 refine call_data rfl rfl (compareI_c _ _ _ _ (by omega) (by decide)) ?_
 conv=>whnf
 refine ⟨?_,trivial⟩
 conv=>whnf
 exact e
theorem eqDs_rd(r s:RD):eqDs [.v (.bool r.neg),.v (.string r.num),.v (.string r.den)] [.v (.bool s.neg),.v (.string s.num),.v (.string s.den)] =decide (r=s):=by
 obtain ⟨a,b,c⟩:=r
 obtain ⟨a',b',c'⟩:=s
 simp only [eqDs,eqD,byt_beq,Bool.and_true,RD.mk.injEq]
 by_cases h1:a=a'<;>by_cases h2:b=b'<;>by_cases h3:c=c'<;>simp [eqV,h1,h2,h3,byt_beq]
theorem eqDs_rq(r:RD)(q:Rat):eqDs [.v (.bool r.neg),.v (.string r.num),.v (.string r.den)] [.v (.bool (rneg q)),.v (.string (rnum q)),.v (.string (rden q))] =decide (r=canon q):=by
 unfold rneg rnum rden;exact eqDs_rd r (canon q)
@[irreducible] def okN(r:RD):Int:=if canon r.val=r then 0 else 1
theorem check_r(r:RD)(hr:Sz r):Fun Tryz.prog 32 [rdD r] [i64 (okN r)] :=by
 refine fun_of_go (fun t=>false) mixed tOk Tryz.func32 rfl rfl ?_
 conv=>whnf
 refine callv_data (of_c2 r (by have:=hr.2;omega)) ?_
 conv=>whnf
 refine callv_data (number_r r hr) ?_
 conv=>whnf
 refine safe_intro (by kernel_rfl) ?_
 conv=>whnf
 have e:eqDs (List.take ti27.cells (List.drop 0 (rdD r).cells)) [D.v (.bool (rneg r.val)),.v (.string (rnum r.val)),.v (.string (rden r.val))] =decide (r=canon r.val):=eqDs_rq r _
 rw [e]
 refine cond_b (fun h=> ?_) (fun h=> ?_)
 ·have h1: ¬canon r.val=r:=fun h'=>by rw [h'] at h;simp at h
  conv=>whnf
  refine ⟨?_,trivial⟩
  conv=>whnf
  unfold okN;rw [if_neg h1]
 ·have h1:canon r.val=r:=by
   have:r=canon r.val:=by simpa using h
   exact this.symm
  conv=>whnf
  refine ⟨?_,trivial⟩
  conv=>whnf
  unfold okN;rw [if_pos h1]
theorem of_r(n:Int)(h: -9223372036854775808≤n∧n≤9223372036854775807):Fun Tryz.prog 15 [i64 n] [ratD (n:Rat)] :=by
 have hz:n.natAbs<256^8:=by have:(256:Nat)^8=18446744073709551616:=rfl;omega
 have hn:=number_z n 1 8 1 (by omega) hz (by decide) (by omega) (by omega)
 have e:mkRat n (Int.toNat 1)=(n:Rat):=by rw [Rat.mkRat_eq_div];show (n:Rat)/((1:Nat):Rat)=n;rw [Rat.natCast_ofNat];grind
 rw [e] at hn
 refine fun_of_go (fun t=>t==2) mixed tOk Tryz.func15 rfl rfl ?_
 conv=>whnf
 refine call_data rfl rfl (of_c n h) ?_
 conv=>whnf
 refine call_data rfl rfl (of_c 1 (by omega)) ?_
 conv=>whnf
 refine call_data rfl rfl hn ?_
 conv=>whnf
 refine ⟨?_,trivial⟩
 conv=>whnf
 exact ⟨rfl,rfl,rfl,trivial⟩
@[irreducible] def eN(b:Int):Int:=if b=0 then 10 else 0
@[irreducible] def eQ(q:Rat):Int:=if q=0 then 10 else 0
theorem canon_zero:canon 0=⟨false,emp,emp⟩:=by decide
theorem rneg_zero:rneg 0=false:=by unfold rneg;rw [canon_zero]
theorem rnum_zero:rnum 0=emp:=by unfold rnum;rw [canon_zero]
theorem rden_zero:rden 0=emp:=by unfold rden;rw [canon_zero]
theorem new_z(a b:Int)(k l:Nat)(ha:a.natAbs<256^k)(hb:b.natAbs<256^l)(hk:k<500000000000)(hl:l<500000000000):
  Fun Tryz.prog 60 [zD a,zD b] [ratD (Rat.divInt a b),i64 (eN b)] :=by
 have sa:=szZ_nb ha
 have sb:=szZ_nb hb
 have hc0:cmpZ (sg (ng b) (bv (nb b.natAbs))) (sg false (bv ⟨#[]⟩))=cmpZ b 0:=by rw [sg_z];rfl
 refine fun_of_go (fun t=>t==2||t==3||t==4) mixed tOk Tryz.func60 rfl rfl ?_
 conv=>whnf
 refine call_data rfl rfl (compareI_c _ _ _ _ (by omega) (by decide)) ?_
 conv=>whnf
 rw [hc0]
 refine cond_e (fun h=> ?_) (fun h=> ?_)
 ·conv=>whnf
  have h0:b=0:=by unfold cmpZ at h;split at h<;>(try split at h)<;>omega
  subst h0
  refine ⟨?_, ?_,trivial⟩
  ·rw [Rat.divInt_zero]
   conv=>whnf
   rw [rneg_zero,rnum_zero,rden_zero]
   exact ⟨rfl,rfl,rfl,trivial⟩
  ·conv=>whnf
   unfold eN;rfl
 ·conv=>whnf
  have h0:b≠0:=by rintro rfl;exact h rfl
  have he:eN b=0:=by unfold eN;rw [if_neg h0]
  refine cond_e (fun h2=> ?_) (fun h2=> ?_)
  ·conv=>whnf
   have hneg:b<0:=by unfold cmpZ at h2;split at h2<;>(try split at h2)<;>omega
   refine callv_data (neg_c _ _ (by omega)) ?_
   conv=>whnf
   refine callv_data (neg_c _ _ (by omega)) ?_
   conv=>whnf
   refine safe_intro (by kernel_rfl) ?_
   conv=>whnf
   rw [sg_z,sg_z]
   refine call_data rfl rfl (number_z (-a) (-b) k l (by omega) (by omega) (by omega) hk hl) ?_
   conv=>whnf
   have e:mkRat (-a) (-b).toNat=Rat.divInt a b:=by
    rw [←Rat.neg_divInt_neg, ←Rat.divInt_ofNat]
    congr 1;omega
   rw [e]
   refine ⟨?_, ?_,trivial⟩
   ·conv=>whnf
    exact ⟨rfl,rfl,rfl,trivial⟩
   ·conv=>whnf
    exact he.symm
  ·conv=>whnf
   have hpos:0<b:=by
    unfold cmpZ at h h2;split at h2
    ·omega
    ·split at h2<;>omega
   refine call_data rfl rfl (number_z a b k l hpos ha hb hk hl) ?_
   conv=>whnf
   have e:mkRat a b.toNat=Rat.divInt a b:=by
    rw [←Rat.divInt_ofNat]
    congr 1;omega
   rw [e]
   refine ⟨?_, ?_,trivial⟩
   ·conv=>whnf
    exact ⟨rfl,rfl,rfl,trivial⟩
   ·conv=>whnf
    exact he.symm
theorem bd64{n:Int}(h: -9223372036854775808≤n∧n≤9223372036854775807):n.natAbs<256^8:=by have:(256:Nat)^8=18446744073709551616:=rfl;omega
theorem ratio_r(a b:Int)(ha: -9223372036854775808≤a∧a≤9223372036854775807)(hb: -9223372036854775808≤b∧b≤9223372036854775807):
  Fun Tryz.prog 14 [i64 a,i64 b] [ratD (Rat.divInt a b),i64 (eN b)] :=by
 refine fun_of_go (fun t=>t==4) mixed tOk Tryz.func14 rfl rfl ?_
 conv=>whnf
 refine call_data rfl rfl (of_c a ha) ?_
 conv=>whnf
 refine call_data rfl rfl (of_c b hb) ?_
 conv=>whnf
 refine call_data rfl rfl (new_z a b 8 8 (bd64 ha) (bd64 hb) (by omega) (by omega)) ?_
 conv=>whnf
 refine ⟨?_, ?_,trivial⟩
 ·conv=>whnf
  exact ⟨rfl,rfl,rfl,trivial⟩
 ·conv=>whnf
theorem quo_r(r s:RD)(hr:Sz r)(hs:Sz s):Fun Tryz.prog 36 [rdD r,rdD s] [ratD (r.val/s.val),i64 (eQ s.val)] :=by
 have z1:=dn_size r.den
 have z2:=dn_size s.den
 have e1:sg false (bv (dn r.den))=(dv r.den:Int):=by rw [bv_dn];rfl
 have e2:sg false (bv (dn s.den))=(dv s.den:Int):=by rw [bv_dn];rfl
 have k1:=szZ_sg r.neg r.num
 have k2:=szZ_sg s.neg s.num
 have k3:=szZ_sg false (dn r.den)
 have k4:=szZ_sg false (dn s.den)
 have m1:=szZ_mul k1 k4
 have m3:=szZ_mul k3 k2
 have p1:=dv_pos r.den
 have p2:=dv_pos s.den
 obtain ⟨hr1,hr2⟩:=hr
 obtain ⟨hs1,hs2⟩:=hs
 have ev:Rat.divInt (sg r.neg (bv r.num)*sg false (bv (dn s.den))) (sg false (bv (dn r.den))*sg s.neg (bv s.num))=r.val/s.val:=by
  rw [e1,e2,Rat.div_def,val_eq,val_eq, ←Rat.divInt_ofNat, ←Rat.divInt_ofNat,Rat.inv_divInt,Rat.divInt_mul_divInt]
 have ee:eN (sg false (bv (dn r.den))*sg s.neg (bv s.num))=eQ s.val:=by
  unfold eN eQ
  have:(sg false (bv (dn r.den))*sg s.neg (bv s.num)=0)=(s.val=0):=by
   rw [e1,val_eq,Rat.mkRat_eq_zero (dv_ne _),Int.mul_eq_zero]
   apply propext
   exact ⟨fun h=>h.resolve_left (by omega),fun h=> .inr h⟩
  simp only [this]
 refine fun_of_go (fun t=>t==4||t==6||t==7) mixed tOk Tryz.func36 rfl rfl ?_
 conv=>whnf
 refine callv_data (of_c2 r (by omega)) ?_
 conv=>whnf
 refine callv_data (of_c2 s (by omega)) ?_
 conv=>whnf
 refine safe_intro (by kernel_rfl) ?_
 conv=>whnf
 refine callv_data (mul_c _ _ _ _ (by omega) (by omega)) ?_
 conv=>whnf
 refine callv_data (mul_c _ _ _ _ (by omega) (by omega)) ?_
 conv=>whnf
 refine callv_data (new_z _ _ _ _ m1 m3 (by omega) (by omega)) ?_
 conv=>whnf
 refine safe_intro (by kernel_rfl) ?_
 conv=>whnf
 rw [ev,ee]
 refine ⟨?_, ?_,trivial⟩
 ·conv=>whnf
  exact ⟨rfl,rfl,rfl,trivial⟩
 ·conv=>whnf
theorem sz_bd{q:Rat}{n:Nat}(h:Bd n q)(hn:n<90000000000):Sz (canon q):=by
 unfold Sz canon
 have h1:q.num.natAbs<256^(n+1):=by
  have:=h.1
  have e:256^(n+1)=256^n*256:=Nat.pow_succ _ _
  have:0<256^n:=Nat.pow_pos (by omega)
  omega
 have h2:q.den<256^(n+1):=by
  have:=h.2
  have e:256^(n+1)=256^n*256:=Nat.pow_succ _ _
  have:0<256^n:=Nat.pow_pos (by omega)
  omega
 have:=nb_sz h1
 have:=nb_sz h2
 refine ⟨by simp only;omega, ?_⟩
 simp only
 split
 ·show (0:Nat)<_;omega
 ·omega
def Q(q:Rat):Prop:= ∃n,n<90000000000∧Bd n q
theorem Q.sz{q:Rat}(h:Q q):Sz (canon q):=by obtain ⟨n,h1,h2⟩:=h;exact sz_bd h2 h1
theorem add_q{p q:Rat}(hp:Q p)(hq:Q q):Fun Tryz.prog 16 [ratD p,ratD q] [ratD (p+q)] :=by
 have:=add_r (canon p) (canon q) hp.sz hq.sz
 rwa [val_canon,val_canon, ←ratD_eq, ←ratD_eq] at this
theorem mul_q{p q:Rat}(hp:Q p)(hq:Q q):Fun Tryz.prog 17 [ratD p,ratD q] [ratD (p*q)] :=by
 have:=mul_r (canon p) (canon q) hp.sz hq.sz
 rwa [val_canon,val_canon, ←ratD_eq, ←ratD_eq] at this
theorem sub_q{p q:Rat}(hp:Q p)(hq:Q q):Fun Tryz.prog 59 [ratD p,ratD q] [ratD (p-q)] :=by
 have:=sub_r (canon p) (canon q) hp.sz hq.sz
 rwa [val_canon,val_canon, ←ratD_eq, ←ratD_eq] at this
theorem cmp_q{p q:Rat}(hp:Q p)(hq:Q q):Fun Tryz.prog 34 [ratD p,ratD q] [i64 (cmpI p q)] :=by
 have:=compare_r (canon p) (canon q) hp.sz hq.sz
 rwa [val_canon,val_canon, ←ratD_eq, ←ratD_eq] at this
theorem sign_q{p:Rat}(hp:Q p):Fun Tryz.prog 33 [ratD p] [i64 (sgnI p)] :=by
 have:=sign_r (canon p) hp.sz
 rwa [val_canon, ←ratD_eq] at this
theorem quo_q{p q:Rat}(hp:Q p)(hq:Q q):Fun Tryz.prog 36 [ratD p,ratD q] [ratD (p/q),i64 (eQ q)] :=by
 have:=quo_r (canon p) (canon q) hp.sz hq.sz
 rwa [val_canon,val_canon, ←ratD_eq, ←ratD_eq] at this
theorem check_q{p:Rat}(hp:Q p):Fun Tryz.prog 32 [ratD p] [i64 0] :=by
 have:=check_r (canon p) hp.sz
 rw [←ratD_eq] at this
 have e:okN (canon p)=0:=by unfold okN;rw [val_canon,if_pos rfl]
 rwa [e] at this
abbrev ptR(r s:RD):D:= .a [.v (.bool r.neg),.v (.string r.num),.v (.string r.den),.v (.bool s.neg),.v (.string s.num),.v (.string s.den)]
abbrev ptD(p q:Rat):D:= .a [.v (.bool (rneg p)),.v (.string (rnum p)),.v (.string (rden p)),.v (.bool (rneg q)),.v (.string (rnum q)),.v (.string (rden q))]
theorem each_c{x y u v z w:Rat}{f:FuncId}(h1:Fun Tryz.prog f [ratD x,ratD u] [ratD z])(h2:Fun Tryz.prog f [ratD y,ratD v] [ratD w]):
  Fun Tryz.prog 100 [ptD x y,ptD u v,.f f []] [ptD z w] :=by
 refine fun_of_go (fun t=>t==6) mixed tOk Tryz.func100 rfl rfl ?_
 conv=>whnf
 refine callv_data h1 ?_
 conv=>whnf
 refine callv_data h2 ?_
 conv=>whnf
 refine safe_intro (by kernel_rfl) ?_
 conv=>whnf
 refine ⟨?_,trivial⟩
 conv=>whnf
 exact ⟨rfl,rfl,rfl,rfl,rfl,rfl,trivial⟩
theorem vadd_c{x y u v:Rat}(hx:Q x)(hy:Q y)(hu:Q u)(hv:Q v):Fun Tryz.prog 47 [ptD x y,ptD u v] [ptD (x+u) (y+v)] :=by
 refine fun_of_go (fun t=>t==4) mixed tOk Tryz.func47 rfl rfl ?_
 conv=>whnf
 refine call_data rfl rfl (each_c (add_q hx hu) (add_q hy hv)) ?_
 conv=>whnf
 refine ⟨?_,trivial⟩
 conv=>whnf
 exact ⟨rfl,rfl,rfl,rfl,rfl,rfl,trivial⟩
theorem vsub_c{x y u v:Rat}(hx:Q x)(hy:Q y)(hu:Q u)(hv:Q v):Fun Tryz.prog 35 [ptD x y,ptD u v] [ptD (x-u) (y-v)] :=by
 refine fun_of_go (fun t=>t==4) mixed tOk Tryz.func35 rfl rfl ?_
 conv=>whnf
 refine call_data rfl rfl (each_c (sub_q hx hu) (sub_q hy hv)) ?_
 conv=>whnf
 refine ⟨?_,trivial⟩
 conv=>whnf
 exact ⟨rfl,rfl,rfl,rfl,rfl,rfl,trivial⟩
theorem vcompare_c{x y u v:Rat}(hx:Q x)(hy:Q y)(hu:Q u)(hv:Q v):Fun Tryz.prog 155 [ptD x y,ptD u v] [i64 (if cmpI x u=0 then cmpI y v else cmpI x u)] :=by
 refine fun_of_go (fun t=>false) mixed tOk Tryz.func155 rfl rfl ?_
 conv=>whnf
 refine call_data rfl rfl (cmp_q hx hu) ?_
 conv=>whnf
 refine cond_ne (fun h=> ?_) (fun h=> ?_)
 ·conv=>whnf
  rw [if_neg h]
  refine ⟨?_,trivial⟩
  conv=>whnf
 ·conv=>whnf
  rw [if_pos h]
  refine call_data rfl rfl (cmp_q hy hv) ?_
  conv=>whnf
  refine ⟨?_,trivial⟩
  conv=>whnf
theorem Q.mk{q:Rat}{n:Nat}(h:Bd n q)(hn:n<90000000000):Q q:=⟨n,hn,h⟩
theorem vscale_c{x y t:Rat}(hx:Q x)(hy:Q y)(ht:Q t):Fun Tryz.prog 160 [ptD x y,ratD t] [ptD (x*t) (y*t)] :=by
 refine fun_of_go (fun t=>t==4) mixed tOk Tryz.func160 rfl rfl ?_
 conv=>whnf
 refine call_data rfl rfl (each_c (mul_q hx ht) (mul_q hy ht)) ?_
 conv=>whnf
 refine ⟨?_,trivial⟩
 conv=>whnf
 exact ⟨rfl,rfl,rfl,rfl,rfl,rfl,trivial⟩
theorem vat_c{x y u v t:Rat}{n m:Nat}(hx:Bd n x)(hy:Bd n y)(hu:Bd n u)(hv:Bd n v)(ht:Bd m t)(hn:n<10000000000)(hm:m<10000000000):
  Fun Tryz.prog 81 [ptD x y,ptD u v,ratD t] [ptD (x+(u-x)*t) (y+(v-y)*t)] :=by
 refine fun_of_go (fun t=>t==6) mixed tOk Tryz.func81 rfl rfl ?_
 conv=>whnf
 refine callv_data (vsub_c (.mk hu (by omega)) (.mk hv (by omega)) (.mk hx (by omega)) (.mk hy (by omega))) ?_
 conv=>whnf
 refine callv_data (vscale_c (.mk (hu.sub hx) (by omega)) (.mk (hv.sub hy) (by omega)) (.mk ht (by omega))) ?_
 conv=>whnf
 refine callv_data (vadd_c (.mk hx (by omega)) (.mk hy (by omega)) (.mk ((hu.sub hx).mul ht) (by omega)) (.mk ((hv.sub hy).mul ht) (by omega))) ?_
 conv=>whnf
 refine safe_intro (by kernel_rfl) ?_
 conv=>whnf
 refine ⟨?_,trivial⟩
 conv=>whnf
 exact ⟨rfl,rfl,rfl,rfl,rfl,rfl,trivial⟩
@[irreducible] def okP(r s:RD):Int:=if canon r.val=r∧canon s.val=s then 0 else 1
theorem okP_zero{r s:RD}:okP r s=0↔canon r.val=r∧canon s.val=s:=by
 unfold okP;split<;>simp_all
theorem okN_zero{r:RD}:okN r=0↔canon r.val=r:=by
 unfold okN;split<;>simp_all
theorem vcheck_c(r s:RD)(hr:Sz r)(hs:Sz s):Fun Tryz.prog 49 [ptR r s] [i64 (okP r s)] :=by
 refine fun_of_go (fun t=>t==4) mixed tOk Tryz.func49 rfl rfl ?_
 conv=>whnf
 refine unroll 3 (fun t=>t==4) mixed tOk ?_
 conv=>whnf
 refine cond_dt (by show (0:Int)<((2:Nat):Int);omega) ?_
 conv=>whnf
 refine idx_intro (rdD r) rfl (by omega) (by intro x hx;simp at hx;rcases hx with rfl|rfl<;>rfl) ?_
 conv=>whnf
 refine call_data rfl rfl (check_r r hr) ?_
 conv=>whnf
 refine cond_ne (fun h=> ?_) (fun h=> ?_)
 ·conv=>whnf
  refine ⟨?_,trivial⟩
  conv=>whnf
  unfold okP;rw [if_neg (fun h'=>h (okN_zero.2 h'.1))]
 ·conv=>whnf
  refine sd_d (by omega) ?_
  conv=>whnf
  refine cond_dt (by show (0:Int)+1<((2:Nat):Int);omega) ?_
  conv=>whnf
  refine idx_intro (rdD s) rfl (by omega) (by intro x hx;simp at hx;rcases hx with rfl|rfl<;>rfl) ?_
  conv=>whnf
  refine call_data rfl rfl (check_r s hs) ?_
  conv=>whnf
  refine cond_ne (fun h2=> ?_) (fun h2=> ?_)
  ·conv=>whnf
   refine ⟨?_,trivial⟩
   conv=>whnf
   unfold okP;rw [if_neg (fun h'=>h2 (okN_zero.2 h'.2))]
  ·conv=>whnf
   refine sd_d (by omega) ?_
   conv=>whnf
   refine cond_df (by show¬(0:Int)+1+1<((2:Nat):Int);omega) ?_
   conv=>whnf
   refine ⟨?_,trivial⟩
   conv=>whnf
   exact (okP_zero.2 ⟨okN_zero.1 h,okN_zero.1 h2⟩).symm
abbrev quD(x y u v:Rat):D:= .a [.v (.bool (rneg x)),.v (.string (rnum x)),.v (.string (rden x)),.v (.bool (rneg y)),.v (.string (rnum y)),.v (.string (rden y)),
 .v (.bool (rneg u)),.v (.string (rnum u)),.v (.string (rden u)),.v (.bool (rneg v)),.v (.string (rnum v)),.v (.string (rden v))]
theorem sgnI_nonneg{p:Rat}:0≤sgnI p↔0≤p:=by
 rw [sgnI_eq]
 have:=sgnQ_neg (p:=p)
 constructor
 ·intro h;have h2: ¬p<0:=fun h3=>by have:=this.2 h3;omega
  exact Rat.not_lt.1 h2
 ·intro h;have h2: ¬sgnQ p<0:=fun h3=>by have:=this.1 h3;grind
  omega
@[irreducible] def sgE(x y u v:Rat):Int:=if x=u∧y=v then 12 else 0
theorem cmpI_zero{p q:Rat}:cmpI p q=0↔p=q:=by rw [cmpI_eq];exact cmpQ_zero
theorem scheck_c{x y u v:Rat}(hx:Q x)(hy:Q y)(hu:Q u)(hv:Q v):Fun Tryz.prog 78 [quD x y u v] [i64 (sgE x y u v)] :=by
 refine fun_of_go (fun t=>false) mixed tOk Tryz.func78 rfl rfl ?_
 conv=>whnf
 refine call_data rfl rfl (vcompare_c hx hy hu hv) ?_
 conv=>whnf
 have e:(if cmpI x u=0 then cmpI y v else cmpI x u)=0↔x=u∧y=v:=by
  split
  ·rename_i h;rw [cmpI_zero] at h;rw [cmpI_zero];exact ⟨fun h2=>⟨h,h2⟩,fun h2=>h2.2⟩
  ·rename_i h;exact ⟨fun h2=>absurd h2 h,fun h2=>absurd (cmpI_zero.2 h2.1) h⟩
 refine cond_e (fun h=> ?_) (fun h=> ?_)
 ·conv=>whnf
  refine ⟨?_,trivial⟩
  conv=>whnf
  unfold sgE;rw [if_pos (e.1 h)]
 ·conv=>whnf
  refine ⟨?_,trivial⟩
  conv=>whnf
  unfold sgE;rw [if_neg (fun h'=>h (e.2 h'))]
end Go.Nv
end
