import Derived.Test.YtdjbkccoofcnjaaGreatNvE1
import Derived.Test.YtdjbkccoofcnjaaGreatNvN5
import Derived.Test.YtdjbkccoofcnjaaGreatNvN6
set_option linter.all false
set_option linter.unusedVariables false
set_option linter.unusedSimpArgs false
section
namespace Go.Nv
open Go.RowKit
set_option linter.unusedVariables false
set_option linter.unusedSimpArgs false
def OkOps0 (P : Program) : List Oper → St → (St → Prop) → Prop
  | [], st, K => K st
  | o :: l, st, K => o.guard = none ∧ OkOp P o st (fun st' => OkOps0 P l st' K)
@[irreducible] def OkOps (P : Program) (l : List Oper) (st : St) (K : St → Prop) : Prop := OkOps0 P l st K
theorem okOps_eq (P : Program) (l : List Oper) (st : St) (K : St → Prop) : OkOps P l st K = OkOps0 P l st K := by unfold OkOps; rfl
section
variable {P : Program} {T : Tb} {mu : Tmp → Bool}
theorem okOps_nil {st : St} {K : St → Prop} (h : K st) : OkOps P [] st K := by rw [okOps_eq]; exact h
theorem okOps_cons {o : Oper} {l : List Oper} {st : St} {K : St → Prop} (hg : o.guard = none) (h : OkOp P o st (fun st' => OkOps P l st' K)) : OkOps P (o :: l) st K := by
  rw [okOps_eq]
  refine ⟨hg, ?_⟩
  have e : (fun st' => OkOps P l st' K) = fun st' => OkOps0 P l st' K := funext fun st' => okOps_eq ..
  rw [← e]; exact h
theorem okOps_go (mu : Tmp → Bool) (hT : TbOk P T) {o : Oper} {l : List Oper} {st : St} {K : St → Prop} (hg : o.guard = none) (h : goOp P T mu o st (fun st' => OkOps P l st' K)) : OkOps P (o :: l) st K := okOps_cons hg (goOp_sound hT h)
theorem ok_ops {id : Nat} {ops : Array Oper} {st : St} {K : Ex → St → Prop} (h : OkOps P ops.toList st (K .normal)) : Ok P (.region id ops false) st K := by
  intro n old bs w0 a W ι hr
  refine wpIn_region ?_
  have key : ∀ (l : List Oper) (i : Nat) (st : St) (a : Act) (W : World) (ι : Nat → Value), ops.toList.drop i = l → OkOps0 P l st (K .normal) → Rel old bs w0 ι st a W → wpOpsIn (FW w0.r) n P ops (Post old bs w0 K) (List.range' i l.length) a W := by
    intro l
    induction l with
    | nil => intro i st a W ι _ h hr; exact ⟨.normal, st, ι, rfl, h, hr⟩
    | cons o l ih =>
      intro i st a W ι hd h hr
      obtain ⟨hg, ho⟩ := h
      have hoi : ops[i]? = some o := by
        have : (ops.toList.drop i)[0]? = some o := by rw [hd]; rfl
        simpa using this
      have hd' : ops.toList.drop (i + 1) = l := by
        rw [← List.drop_drop, hd]; rfl
      rw [List.length_cons, List.range'_succ]
      simp only [wpOpsIn, hoi]
      rw [if_pos (by simp [Region.wanted, hg])]
      exact ho _ _ _ _ _ _ _ _ _ hr fun st' a' W' ι' hk hrel => ih (i + 1) _ _ _ ι' hd' hk hrel
  rw [List.range_eq_range']
  rw [okOps_eq] at h
  have := key ops.toList 0 st a W ι (by simp) h hr
  simpa using this
theorem okOp_sl3 {o : Oper} {xt ee : TypeId} {x lo hi m : Operand} {st : St} {K : St → Prop} {xs : List D} {l h mm : Nat} (hop : o.op = .slice xt x (some lo) (some hi) (some m)) (e1 : evx st.env x = .d (.l xs)) (e2 : evx st.env lo = .d (.v (.int .i64 l))) (e3 : evx st.env hi = .d (.v (.int .i64 h))) (e4 : evx st.env m = .d (.v (.int .i64 mm)))
    (hut : P.underlying xt = some (.slice ee)) (t1 : 0 < P.cellsOf ee) (t5 : Uni (P.cellsOf ee) xs) (t2 : l ≤ h) (t3 : h ≤ mm) (t4 : mm ≤ xs.length) (hv : K ⟨putx st.env o.dst (.d (.l (subL xs l h))), st.t⟩) : OkOp P o st K := by
  intro n old bs w0 a W ι Kw Q hr hK
  have hxx := hr.ev x
  have hx2 := hr.ev lo
  have hx3 := hr.ev hi
  have hx4 := hr.ev m
  rw [evx_eq] at e1 e2 e3 e4
  rw [putx_eq] at hv
  rw [e1] at hxx
  rw [e2] at hx2
  rw [e3] at hx3
  rw [e4] at hx4
  refine wpIn_of_opOk hr (val := .d (.l (subL xs l h))) (upd := none) ?_ (by intro c hc; rw [hop] at hc; cases hc) fun a' W' ι' _ hrel => hK _ _ _ ι' hv hrel
  obtain ⟨A, cap, hvv, hcap, hcm, hAn, hrow⟩ := sd_l hxx
  have v2 := (sd_v hx2).1
  have v3 := (sd_v hx3).1
  have v4 := (sd_v hx4).1
  have hb := run_bounds3 (P := P) (W := W) (len := xs.length) (cap := cap) t2 t3 (by omega)
  have hrun : (execOp a.eval o).run P W = .ok (.value (.slice (if mm = l then A else A.map (·.add (l * P.cellsOf ee))) (h - l) (mm - l))) W := by
    simp [execOp, hop, Instr.sliceAt, Instr.slice, underlying, hut, hvv, v2, v3, v4, hb, run_sizeOf_ne (Nat.ne_of_gt t1)]
  refine OpOk.pure hr.tok hrun ?_
  have hlen : (subL xs l h).length = h - l := by simp [subL]; omega
  by_cases hz : h - l = 0
  · have e0 : subL xs l h = [] := List.eq_nil_of_length_eq_zero (by omega)
    rw [e0, hz]
    refine .d (.l0 (by omega) fun hn => ?_)
    split at hn
    · omega
    · have := hAn (by simpa using hn); omega
  · rw [← hlen]
    have hne : flat xs ≠ [] := by
      intro hn
      have h2 := flat_uni t5
      rw [hn] at h2
      have : 0 < xs.length * P.cellsOf ee := Nat.mul_pos (by omega) t1
      simp at h2; omega
    obtain ⟨b, off, us, rfl, hne', hok, hc, hd, h1'⟩ := hrow hne
    rw [if_neg (by omega)]
    simp only [Option.map_some, add_none]
    have hut2 : Uni (P.cellsOf ee) (xs.take h) := fun y hy => t5 y (List.mem_of_mem_take hy)
    have e1' : flat (subL xs l h) = ((flat xs).take (h * P.cellsOf ee)).drop (l * P.cellsOf ee) := by unfold subL; rw [flat_drop hut2, flat_take t5]
    have e2' := (hd.take (h * P.cellsOf ee)).drop (l * P.cellsOf ee)
    rw [← e1'] at e2'
    have hfl := flat_uni (size := P.cellsOf ee) (xs := subL xs l h) (fun y hy => hut2 y (List.mem_of_mem_drop hy))
    refine .d (.l ?_ e2'.1 hok ?_ e2'.2 ?_ (by omega) (by omega))
    · intro hn
      have := e2'.1
      rw [hn, hfl, hlen] at this
      have : 0 < (h - l) * P.cellsOf ee := Nat.mul_pos (by omega) t1
      simp at *; omega
    · intro i u hu'
      rw [List.getElem?_drop, List.getElem?_take] at hu'
      split at hu'
      · have := hc _ _ hu'
        rwa [show off + (l * P.cellsOf ee + i) = off + l * P.cellsOf ee + i from by omega] at this
      · simp at hu'
    · exact one_sub h1' fun u hu' => List.mem_of_mem_take (List.mem_of_mem_drop hu')
end
end Go.Nv
end
