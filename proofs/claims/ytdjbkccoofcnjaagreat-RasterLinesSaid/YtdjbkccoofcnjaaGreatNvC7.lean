import Derived.Test.YtdjbkccoofcnjaaGreatNvC6
import Derived.Test.YtdjbkccoofcnjaaGreatNvN5
import Derived.Test.YtdjbkccoofcnjaaGreatNvN6
set_option linter.all false
set_option maxRecDepth 100000
section
namespace Go.Nv
open Go.Proofs Nw
theorem len64_small(x:Nat)(hx:x<256):Fun Tryz.prog 273 [u64 x] [i64 (blen x)] :=by
 have hl:=blen_le (x:=x) (k:=8) hx
 refine fun_of_go (fun t=>false) mixed tOk Tryz.func273 rfl rfl ?_
 conv=>whnf
 refine cond_df (by omega) ?_
 conv=>whnf
 refine cond_df (by omega) ?_
 conv=>whnf
 refine cond_df (by omega) ?_
 conv=>whnf
 have e8:(x:Int)%256=x:=by omega
 refine sd_d (by rw [e8];refine ⟨by omega, ?_⟩;show _<((256:Nat):Int);omega) ?_
 conv=>whnf
 rw [e8,tab_get (i:=x) (by kernel_rfl) rfl hx]
 refine sd_d (by omega) ?_
 conv=>whnf
 refine sd_d (by omega) ?_
 conv=>whnf
 refine ⟨?_,trivial⟩
 conv=>whnf
 omega
theorem len_small(x:Nat)(hx:x<256):Fun Tryz.prog 189 [u64 x] [i64 (blen x)] :=by
 refine fun_of_go (fun t=>false) mixed tOk Tryz.func189 rfl rfl ?_
 conv=>whnf
 refine call_data rfl rfl (len64_small x hx) ?_
 conv=>whnf
 refine ⟨?_,trivial⟩
 conv=>whnf
theorem cmpI_neg{p q:Rat}:cmpI p q<0↔p<q:=by
 rw [cmpI_eq];unfold cmpQ;split<;>(try split)<;>simp_all
theorem eqDs_pt(r s t w:RD):eqDs [.v (.bool r.neg),.v (.string r.num),.v (.string r.den),.v (.bool s.neg),.v (.string s.num),.v (.string s.den)] [.v (.bool t.neg),.v (.string t.num),.v (.string t.den),.v (.bool w.neg),.v (.string w.num),.v (.string w.den)] =decide (r=t∧s=w):=by
 obtain ⟨a,b,c⟩:=r
 obtain ⟨a',b',c'⟩:=s
 obtain ⟨u,v,w1⟩:=t
 obtain ⟨u',v',w1'⟩:=w
 simp only [eqDs,eqD,eqV,byt_beq,Bool.and_true,RD.mk.injEq]
 rw [Bool.eq_iff_iff]
 simp only [Bool.and_eq_true,decide_eq_true_eq,beq_iff_eq]
 constructor
 ·rintro ⟨h1,h2,h3,h4,h5,h6⟩;exact ⟨⟨h1,h2,h3⟩,h4,h5,h6⟩
 ·rintro ⟨⟨h1,h2,h3⟩,h4,h5,h6⟩;exact ⟨h1,h2,h3,h4,h5,h6⟩
theorem eqDs_ptq(x y u v:Rat):eqDs [.v (.bool (rneg x)),.v (.string (rnum x)),.v (.string (rden x)),.v (.bool (rneg y)),.v (.string (rnum y)),.v (.string (rden y))] [.v (.bool (rneg u)),.v (.string (rnum u)),.v (.string (rden u)),.v (.bool (rneg v)),.v (.string (rnum v)),.v (.string (rden v))] =decide (x=u∧y=v):=by
 unfold rneg rnum rden
 rw [eqDs_pt,decide_eq_decide]
 constructor
 ·rintro ⟨h1,h2⟩;have h3:=congrArg RD.val h1;have h4:=congrArg RD.val h2;rw [val_canon,val_canon] at h3 h4;exact ⟨h3,h4⟩
 ·rintro ⟨rfl,rfl⟩;exact ⟨rfl,rfl⟩
def rngs:Code→List (Code×Code)
 | .seq a b=>rngs a++rngs b
 | .block _ b=>rngs b
 | .rangeFunc _ _ a b=> [(a,b)]
 |_=> []
def gtR(r:RD):Bool:=decide (12<r.num.size)||decide (12<r.den.size)
def gtP(p:RD×RD):Bool:=gtR p.1||gtR p.2
theorem great7(ps:List (RD×RD))(hl:ps.length<1000):Fun Tryz.prog 39 [.l (ps.map fun p=>ptR p.1 p.2)] [.v (.bool (ps.any gtP))] :=by
 have hll:(ps.map fun p=>ptR p.1 p.2).length=ps.length:=by simp
 have hu:Uni 6 (ps.map fun p=>ptR p.1 p.2):=by
  intro x hx
  obtain ⟨p,_,rfl⟩:=List.mem_map.1 hx
  rfl
 refine fun_of_go (fun t=>false) mixed tOk Tryz.func39 rfl rfl ?_
 conv=>whnf
 refine loop_intro (fun t=>false) (fun i:Nat=>⟨fr 48 [(0,.d (.l (ps.map fun p=>ptR p.1 p.2))),(3,.d (i64 i))], []⟩) (fun i=>i≤ps.length∧(ps.take i).any gtP=false) (fun i=>ps.length-i) 0 mixed tOk ⟨by omega,rfl⟩ ?_ ?_
 ·refine weak_r ?_ ?_<;>repeat' (first|exact trivial|exact rfl|apply And.intro)
 ·rintro i ⟨hi,hno⟩
  conv=>whnf
  refine cond_d (fun hlt=> ?_) (fun hge=> ?_)
  ·have hlt':i<ps.length:=by omega
   have hg:(ps.map fun p=>ptR p.1 p.2)[(i:Int).toNat]? =some (ptR ps[i].1 ps[i].2):=by simp [hlt']
   have yes:gtP ps[i] =true→ps.any gtP=true:=fun h=>List.any_eq_true.2 ⟨ps[i],List.getElem_mem _,h⟩
   conv=>whnf
   refine idx_intro (ptR ps[i].1 ps[i].2) hg (by omega) hu ?_
   conv=>whnf
   refine cond_d (fun k1=> ?_) (fun k1=> ?_)
   ·rw [yes (by unfold gtP gtR;simp;omega)]
    conv=>whnf
    exact ⟨rfl,trivial⟩
   conv=>whnf
   refine idx_intro (ptR ps[i].1 ps[i].2) hg (by omega) hu ?_
   conv=>whnf
   refine cond_d (fun k2=> ?_) (fun k2=> ?_)
   ·rw [yes (by unfold gtP gtR;simp;omega)]
    conv=>whnf
    exact ⟨rfl,trivial⟩
   conv=>whnf
   refine idx_intro (ptR ps[i].1 ps[i].2) hg (by omega) hu ?_
   conv=>whnf
   refine cond_d (fun k3=> ?_) (fun k3=> ?_)
   ·rw [yes (by unfold gtP gtR;simp;omega)]
    conv=>whnf
    exact ⟨rfl,trivial⟩
   conv=>whnf
   refine idx_intro (ptR ps[i].1 ps[i].2) hg (by omega) hu ?_
   conv=>whnf
   refine cond_d (fun k4=> ?_) (fun k4=> ?_)
   ·rw [yes (by unfold gtP gtR;simp;omega)]
    conv=>whnf
    exact ⟨rfl,trivial⟩
   conv=>whnf
   refine sd_d (by omega) ?_
   conv=>whnf
   refine ⟨i+1,⟨by omega, ?_⟩,by omega, ?_⟩
   ·rw [List.take_succ_eq_append_getElem hlt',List.any_append,hno]
    unfold gtP gtR
    simp
    omega
   rw [Int.natCast_succ]
   refine weak_r ?_ ?_<;>repeat' (first|exact trivial|exact rfl|apply And.intro)
  ·have:i=ps.length:=by omega
   subst this
   rw [List.take_length] at hno
   rw [hno]
   conv=>whnf
   exact ⟨rfl,trivial⟩
end Go.Nv
end
