import Derived.Test.YtdjbkccoofcnjaaGreatNvEvU
set_option linter.all false
set_option maxRecDepth 100000
section
namespace Go.Nv
open Go.Proofs Nw Go.RowKit
abbrev ptsD:D:= .l [ptD 0 0,ptD 4 0,ptD 0 4]
theorem win0:evF ev0 (evC ev0 1000) 58 [ptsD,quD 0 2 2 4] =some [ratD 2] :=by kernel_rfl
theorem win1:evF ev0 (evC ev0 1000) 58 [ptsD,quD 2 2 4 4] =some [ratD 0] :=by kernel_rfl
theorem win2:evF ev0 (evC ev0 1000) 58 [ptsD,quD 0 0 2 2] =some [ratD 4] :=by kernel_rfl
theorem win3:evF ev0 (evC ev0 1000) 58 [ptsD,quD 2 0 4 2] =some [ratD 2] :=by kernel_rfl
def eqVb:Value→Value→Bool
 | .bool a,.bool b=>a==b
 | .int .i64 a,.int .i64 b=>a==b
 | .string a,.string b=>a==b
 |_,_=>false
def eqLb(f:D→D→Bool):List D→List D→Bool
 | [], [] =>true
 |x::xs,y::ys=>match f x y with|true=>eqLb f xs ys|false=>false
 |_,_=>false
def eqDb:Nat→D→D→Bool
 |0,_,_=>false
 |n+1,x,y=>match x,y with
  | .v a,.v b=>eqVb a b
  | .a xs,.a ys=>eqLb (eqDb n) xs ys
  | .l xs,.l ys=>eqLb (eqDb n) xs ys
  |_,_=>false
theorem eqVb_eq{a b:Value}(h:eqVb a b=true):a=b:=by
 unfold eqVb at h
 split at h
 ·simpa using h
 ·simpa using h
 ·rename_i a b;rw [byt_beq] at h;simpa using h
 ·simp at h
theorem eqLb_eq{f:D→D→Bool}(hf: ∀x y,f x y=true→x=y): ∀{xs ys:List D},eqLb f xs ys=true→xs=ys
 | [], [],_=>rfl
 |x::xs,y::ys,h=>by
  unfold eqLb at h
  split at h
  ·rename_i hx;rw [hf _ _ hx,eqLb_eq hf h]
  ·simp at h
 | [],_::_,h=>by simp [eqLb] at h
 |_::_, [],h=>by simp [eqLb] at h
theorem eqDb_eq: ∀(n:Nat) (x y:D),eqDb n x y=true→x=y
 |0,_,_,h=>by simp [eqDb] at h
 |n+1,x,y,h=>by
  unfold eqDb at h
  split at h
  ·rw [eqVb_eq h]
  ·rw [eqLb_eq (eqDb_eq n) h]
  ·rw [eqLb_eq (eqDb_eq n) h]
  ·simp at h
def orcK(kn:List (FuncId×List D×List D))(g:FuncId)(ds:List D):Option (List D):=match kn with
 | [] =>orc g ds
 |(f,as',res)::kn=>match Nat.beq f g with
  |true=>match eqLb (eqDb 8) as' ds with|true=>some res|false=>orcK kn g ds
  |false=>orcK kn g ds
theorem orcK_sound: ∀{kn:List (FuncId×List D×List D)} {g:FuncId} {ds res:List D},(∀k∈kn,Fun Tryz.prog k.1 k.2.1 k.2.2)→orcK kn g ds=some res→Fun Tryz.prog g ds res
 | [],g,ds,res,_,h=>orc_sound h
 |(f,as',r)::kn,g,ds,res,hk,h=>by
  have ih:=orcK_sound (kn:=kn) (g:=g) (ds:=ds) (res:=res) (fun k hm=>hk k (by simp [hm]))
  unfold orcK at h
  split at h
  ·rename_i hf
   split at h
   ·rename_i he
    simp at h;subst h
    have e1:=Nat.eq_of_beq_eq_true hf
    have e2:=eqLb_eq (eqDb_eq 8) he
    subst e1;subst e2
    exact hk (f,as',r) (by simp)
   ·exact ih h
  ·exact ih h
end Go.Nv
end
