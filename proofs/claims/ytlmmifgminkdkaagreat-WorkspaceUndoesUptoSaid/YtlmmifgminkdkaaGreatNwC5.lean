import Derived.KernelRfl
import Derived.Test.YtlmmifgminkdkaaGreatNwC4
import Derived.Test.YtlmmifgminkdkaaGreatNwN6
import Derived.Test.YtlmmifgminkdkaaGreatNwN5
import Derived.Test.YtlmmifgminkdkaaGreatNwN3
import Derived.Test.YtlmmifgminkdkaaGreatNwT1
import Derived.Test.YtlmmifgminkdkaaGreatNwN2
set_option linter.all false
set_option maxRecDepth 100000
section
namespace Go.Nv
open Go.Proofs Nw
abbrev quR(a b c d:RD):D:= .a [.v (.bool a.neg),.v (.string a.num),.v (.string a.den),.v (.bool b.neg),.v (.string b.num),.v (.string b.den),
 .v (.bool c.neg),.v (.string c.num),.v (.string c.den),.v (.bool d.neg),.v (.string d.num),.v (.string d.den)]
@[irreducible] def vbB(a b c d:RD):Bool:=decide (okP a b=0/\okP c d=0/\a.val<c.val/\b.val<d.val)
theorem qdx{p q:Rat}:qdo p q<0↔p<q:=by
 rw [qd4];unfold qrv;split<;>(try split)<;>simp_all
theorem qsG{x y:Rat}(hx:Q x)(hy:Q y):Fun Tryz.prog 30 [ptD x y] [i64 0] :=by
 have h:=qgP (canon x) (canon y) hx.sz hy.sz
 rw [qeh.2 ⟨by rw [qas],by rw [qas]⟩] at h
 have e:ptD x y=ptR (canon x) (canon y):=by unfold ptD ptR qfH qfI qf8;rfl
 rw [e];exact h
theorem qk8(r s t w:RD):qc1 [.v (.bool r.neg),.v (.string r.num),.v (.string r.den),.v (.bool s.neg),.v (.string s.num),.v (.string s.den)] [.v (.bool t.neg),.v (.string t.num),.v (.string t.den),.v (.bool w.neg),.v (.string w.num),.v (.string w.den)] =decide (r=t/\s=w):=by
 obtain ⟨a,b,c⟩:=r
 obtain ⟨a',b',c'⟩:=s
 obtain ⟨u,v,w1⟩:=t
 obtain ⟨u',v',w1'⟩:=w
 simp only [qc1,eqD,eqV,qbu,Bool.and_true,RD.mk.injEq]
 rw [Bool.eq_iff_iff]
 simp only [Bool.and_eq_true,decide_eq_true_eq,beq_iff_eq]
 constructor
 ·rintro ⟨h1,h2,h3,h4,h5,h6⟩;exact ⟨⟨h1,h2,h3⟩,h4,h5,h6⟩
 ·rintro ⟨⟨h1,h2,h3⟩,h4,h5,h6⟩;exact ⟨h1,h2,h3,h4,h5,h6⟩
def qAv:Code->List (Code×Code)
 | .seq a b=>qAv a++qAv b
 | .block _ b=>qAv b
 | .rangeFunc _ _ a b=> [(a,b)]
 |_=> []
def gtR(r:RD):Bool:=decide (12<r.num.size)||decide (12<r.den.size)
theorem qxo{s:ByteArray}(h:s.size<=12):bv s<=256^12:=Nat.le_trans (Nat.le_of_lt (qaV _)) (Nat.pow_le_pow_right (by omega) h)
theorem qx6{r:RD}(h:gtR r=false):Bd 12 r.val:=by
 unfold gtR at h
 simp at h
 refine qjr (qh3 _) ?_ ?_
 ·show (sg r.neg (bv r.num)).natAbs<=_
  rw [qeb];exact qxo h.1
 ·have:=qxo h.2
  unfold dv
  split<;>omega
end Go.Nv
end
section
namespace Go.Nv
open Go.RowKit Go.Proofs
end Go.Nv
end
