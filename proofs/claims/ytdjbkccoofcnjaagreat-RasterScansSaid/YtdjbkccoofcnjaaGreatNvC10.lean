import Derived.KernelRfl
import Derived.Test.YtdjbkccoofcnjaaGreatProg
import Derived.Test.YtdjbkccoofcnjaaGreatNvN5
import Derived.Test.YtdjbkccoofcnjaaGreatNvN3
import Derived.Test.YtdjbkccoofcnjaaGreatNvT1
import Derived.Test.YtdjbkccoofcnjaaGreatNvN2
set_option linter.all false
set_option linter.unusedVariables false
set_option linter.unusedSimpArgs false
section
namespace Go.Nv
open Go.RowKit Go.Proofs
set_option linter.unusedVariables false
set_option linter.unusedSimpArgs false
theorem op_step {P : Program} {r : Option Nat} {n : Nat} {o : Oper} {a : Act} {W W' : World} {v : Value} {K : Act → World → Prop} {Q : Exit → Act → World → Prop} (hnd : ∀ c, o.op ≠ .defer c)
    (hrun : (execOp a.eval o).run P W = .ok (.value v) W') (hK : K (a.put o.dst v) W') : o.wpIn (FW r) n P a W K Q := by
  refine ⟨fun f _ => FW.fn r f, ?_⟩
  rw [Oper.semAt_eq _ _ _ hnd, hrun]; exact hK
def wpL (P : Program) (Q : Act → World → Prop) : List Oper → Act → World → Prop
  | [], a, W => Q a W
  | o :: l, a, W => o.guard = none ∧ (∀ c, o.op ≠ .defer c) ∧ ∃ v W', (execOp a.eval o).run P W = .ok (.value v) W' ∧ wpL P Q l (a.put o.dst v) W'
theorem reg_ops {P : Program} {r : Option Nat} {n id : Nat} {ops : Array Oper} {a : Act} {W : World} {Q : Exit → Act → World → Prop} (h : wpL P (Q .normal) ops.toList a W) : (Code.region id ops false).wpIn (FW r) n P Q a W := by
  refine wpIn_region ?_
  have key : ∀ (l : List Oper) (i : Nat) (a : Act) (W : World), ops.toList.drop i = l → wpL P (Q .normal) l a W → wpOpsIn (FW r) n P ops Q (List.range' i l.length) a W := by
    intro l
    induction l with
    | nil => intro i a W _ h; exact h
    | cons o l ih =>
      intro i a W hd h
      obtain ⟨hg, hnd, v, W', hrun, hk⟩ := h
      have hoi : ops[i]? = some o := by
        have : (ops.toList.drop i)[0]? = some o := by rw [hd]; rfl
        simpa using this
      have hd' : ops.toList.drop (i + 1) = l := by
        rw [← List.drop_drop, hd]; rfl
      rw [List.length_cons, List.range'_succ]
      simp only [wpOpsIn, hoi]
      rw [if_pos (by simp [Region.wanted, hg])]
      exact op_step hnd hrun (ih (i + 1) _ _ hd' hk)
  rw [List.range_eq_range']
  have := key ops.toList 0 a W (by simp) h
  simpa using this
def stA (l : List Value) : Act := { tmps := l.toArray, defers := [] }
theorem stA_put (l : List Value) (t : Nat) (v : Value) : (stA l).put (some t) v = stA (l.set t v) := by
  simp [stA, Act.put]
theorem stA_ev (l : List Value) (t : Nat) : (stA l).eval (.tmp t) = (l[t]?).getD undef := by
  simp [stA, Act.eval, Array.getD_eq_getD_getElem?]
theorem stA_c (l : List Value) (v : Value) : (stA l).eval (.const v) = v := rfl
theorem wpL_cons {P : Program} {Q : Act → World → Prop} {o : Oper} {os : List Oper} {l : List Value} {W W' : World} {t : Nat} {v : Value} (hg : o.guard = none) (hd : o.dst = some t) (hnd : ∀ c, o.op ≠ .defer c)
    (hrun : (execOp (stA l).eval o).run P W = .ok (.value v) W') (hk : wpL P Q os (stA (l.set t v)) W') : wpL P Q (o :: os) (stA l) W := by
  refine ⟨hg, hnd, v, W', hrun, ?_⟩
  rw [hd, stA_put]; exact hk
theorem ex_mv {P : Program} {o : Oper} {ev : Operand → Value} {W : World} {a : Operand} {x : Value} (ho : o.op = .move a ∨ o.op = .assign a) (hx : ev a = x) : (execOp ev o).run P W = .ok (.value x) W := by
  rcases ho with ho | ho <;> simp [execOp, ho, hx]
theorem leaves_nil {F : Fence} {n : Nat} {P : Program} {fn : Func} {tmps : Array Value} {R : Ending → World → Prop} {W : World} {v : Value} (h : (results fn tmps).run P W = .ok v W) (hR : R (.returned v) W) : LeavesInM F n P fn tmps R [] .returning W := ⟨v, h, hR⟩
theorem ex_apmk {P : Program} {o : Oper} {ev : Operand → Value} {W W' : World} {t t2 : TypeId} {a b : Operand} {x y v : Value} (ho : o.op = .call { callee := .builtin .append, args := #[a, b], argTypes := #[t, t2] }) (hx : ev a = x) (hy : ev b = y) (h : (Builtin.append_ #[t, t2] o.type #[x, y]).run P W = .ok v W') :
    (execOp ev o).run P W = .ok (.value v) W' := by
  simp [execOp, ho, resolve, invoke, builtin, hx, hy, h, Result.andThen]
end Go.Nv
end
section
namespace Go.Nv
open Go.RowKit Go.Proofs
set_option linter.unusedVariables false
set_option linter.unusedSimpArgs false
theorem run_eqNil0 {P : Program} {W : World} (n : Nat) {t e : TypeId} (ht : P.underlying t = some (.slice e)) : (Op.equalIn (n + 1) t (.slice none 0 0) (.slice none 0 0)).run P W = .ok true W := by
  unfold Op.equalIn
  simp [run_underlying ht]
theorem ex_nil {P : Program} {o : Oper} {ev : Operand → Value} {W : World} {t e : TypeId} {a b : Operand} (ho : o.op = .binOp .eql t a b t) (hx : ev a = .slice none 0 0) (hy : ev b = .slice none 0 0) (ht : P.underlying t = some (.slice e)) :
    (execOp ev o).run P W = .ok (.value (.bool true)) W := by
  have h : (Op.equal t (.slice none 0 0) (.slice none 0 0)).run P W = .ok true W := run_eqNil0 9999 ht
  simp [execOp, ho, hx, hy, eqGuard, binOp, h]
theorem ex_bs {P : Program} {o : Oper} {ev : Operand → Value} {W : World} {t e : TypeId} {i : TypeInfo} (ho : o.op = .buildSlice t 0 #[]) (ht : P.underlying t = some (.slice e)) (hi : P.info? e = some i) :
    (execOp ev o).run P W = .ok (.value (.slice (some ⟨W.heap.size, 0, none⟩) 0 0)) (W.alloc (.cells #[] e)) := by
  simp [execOp, ho, Instr.buildSlice, run_underlying ht, sizeOf, typeInfo, hi, newRow, Instr.fill]
  have : Array.range 0 = #[] := by simp [Array.range]
  rw [this, Array.map_empty]
theorem funO_fun {P : Program} {g : FuncId} {args res : List D} {e : TypeId} {size : Nat} (h : FunO P g args e size res) (hu : Uni size res) (hs : 0 < size) : Fun P g args [.l res] := by
  refine ⟨h.1, fun w ok us hd => (h.2 w ok us hd).mono fun r w' hr => ?_⟩
  obtain ⟨v, vs, rfl, hown, hden, h1, hb⟩ := hr
  refine ⟨v, rfl, ?_, hb⟩
  show Den w' _ (.l res) v
  have hfl := flat_uni hu
  rcases hown.2 with ⟨rfl, hn⟩ | ⟨b, cap, cur, rfl, hbase, hheap, hcap, hcm, hcs, htk⟩
  · have : res = [] := List.eq_nil_of_length_eq_zero hn
    subst this
    exact .l0 (by simp [maxLen]) fun _ => rfl
  · by_cases hz : res = []
    · subst hz
      exact .l0 hcm fun h => by simp at h
    · have hlen : 0 < res.length := List.length_pos_iff.2 hz
      have hvl : vs.length = res.length * size := hown.1
      have hpos : 0 < res.length * size := Nat.mul_pos hlen hs
      refine .l (us := vs) (off := 0) (fun h => by rw [h] at hvl; simp at hvl; omega) (by rw [hvl, hfl]) (.inr hbase) (fun i u hi => ?_) (fun i c u hc hu' => ?_) h1 hcap hcm
      · have := hown.cells (g := b) rfl i u hi
        rw [add_none] at this; exact this
      · exact (hden.2 i c u hc hu').keep (fun _ _ _ => rfl) fun b hb' _ => hb'.1
end Go.Nv
end
section
namespace Go.Nv
open Go.RowKit Go.Proofs
set_option linter.unusedVariables false
set_option linter.unusedSimpArgs false
set_option maxRecDepth 100000 in
theorem cloneR_c (xs : List D) (hu : Uni 6 xs) (hl : xs.length ≤ 1000000) : FunO Tryz.prog 192 [.l xs] 147 6 xs := by
  refine ⟨⟨_, Tryz.func192, rfl, rfl⟩, fun w ok us hd => ?_⟩
  obtain ⟨u0, rfl, h0⟩ : ∃ u0, us = [u0] ∧ Den w ok (.l xs) u0 := by
    match us, hd with
    | [u0], hd => exact ⟨u0, rfl, hd.2 0 _ _ rfl rfl⟩
    | [], hd => have := hd.1; simp at this
    | _ :: _ :: _, hd => have := hd.1; simp at this
  have hsd : SDen w (fun _ => undef) (fun _ => none) ok (.d (.l xs)) u0 := .d h0
  obtain ⟨A, cap, rfl, hcap, hcm, hAn, hrow⟩ := sd_l hsd
  refine (callsIn_wide (n := 0)).1 (callsIn_of_wp_marks (F := FW none) Tryz.func192 rfl (FW.fn none 192) ?_ rfl)
  have ha : (([.slice A xs.length cap] : List Value).toArray ++ Array.replicate (Tryz.f192.ntmps - ([.slice A xs.length cap] : List Value).toArray.size) undef) = #[.slice A xs.length cap, undef, undef, undef, undef, undef, undef, undef] := by
    apply Array.ext'
    rw [Array.toList_append, Array.toList_replicate]
    rfl
  rw [ha]
  clear ha
  show Code.wpIn _ _ _ _ _ (stA [.slice A xs.length cap, undef, undef, undef, undef, undef, undef, undef]) _
  have bel0 : Below w.heap.size w w := ⟨rfl, rfl, rfl, Nat.le_refl _, fun _ _ => rfl⟩
  refine wpIn_seq (reg_ops ?_)
  refine wpL_cons (v := .slice none 0 0) (W' := w) rfl rfl (by intro c h; cases h) (ex_mv (.inr rfl) (stA_c _ _)) ?_
  simp only [List.set_cons_zero, List.set_cons_succ]
  refine wpIn_seq (wpIn_seq (reg_ops ?_))
  refine wpL_cons (v := (.slice A xs.length cap)) (W' := w) rfl rfl (by intro c h; cases h) (ex_mv (.inl rfl) ((stA_ev _ _).trans rfl)) ?_
  simp only [List.set_cons_zero, List.set_cons_succ]
  cases A with
  | none =>
    have hc0 := hAn rfl
    subst hc0
    have hx0 : xs = [] := List.eq_nil_of_length_eq_zero (by omega)
    subst hx0
    refine wpL_cons (v := .bool true) (W' := w) rfl rfl (by intro c h; cases h) (ex_nil rfl ((stA_ev _ _).trans rfl) (stA_c _ _) Tryz.underlying71) ?_
    simp only [List.set_cons_zero, List.set_cons_succ]
    refine wpIn_cond_true (by rw [stA_ev]; rfl) (wpIn_seq (reg_ops ?_))
    refine wpL_cons (v := .slice none 0 0) (W' := w) rfl rfl (by intro c h; cases h) (ex_mv (.inr rfl) (stA_c _ _)) ?_
    simp only [List.set_cons_zero, List.set_cons_succ]
    refine wpIn_ret ?_
    show LeavesInM _ _ _ Tryz.f192 _ _ _ _ _
    refine leaves_nil (v := .slice none 0 0) (by simp [results, Tryz.f192, stA]) ⟨.slice none 0 0, [], rfl, ⟨rfl, .inl ⟨rfl, rfl⟩⟩, DenL.nil _ _, by simp, bel0⟩
  | some ad =>
    obtain ⟨ti, z, hi, hz, hsz, hby, hzs⟩ := elemOk_of (P := Tryz.prog) (e := 147) (size := 6) (bytes := 80) (by kernel_rfl)
    refine wpL_cons (v := .bool false) (W' := w) rfl rfl (by intro c h; cases h) ((run_opNil (t := 71) rfl Tryz.underlying71 ((stA_ev _ _).trans rfl) (stA_c _ _)).1 rfl) ?_
    simp only [List.set_cons_zero, List.set_cons_succ]
    refine wpIn_cond_false (by rw [stA_ev]; rfl) (wpIn_skip ?_)
    refine wpIn_seq (reg_ops ?_)
    obtain ⟨w1, hw1⟩ : ∃ w1, w1 = w.alloc (.cells #[] 147) := ⟨_, rfl⟩
    have hbs : ∀ {o : Oper} {ev : Operand → Value}, o.op = .buildSlice 71 0 #[] → (execOp ev o).run Tryz.prog w = .ok (.value (.slice (some ⟨w.heap.size, 0, none⟩) 0 0)) w1 := fun h => by rw [hw1]; exact ex_bs h Tryz.underlying71 hi
    have hown : w1.ownsRow w.heap.size 147 6 (.slice (some ⟨w.heap.size, 0, none⟩) 0 0) 0 [] := ⟨rfl, .inr ⟨w.heap.size, 0, #[], rfl, Nat.le_refl _, by rw [hw1]; exact heap_alloc_new w _, Nat.le_refl _, by simp [maxLen], rfl, rfl⟩⟩
    have hsz1 : w.heap.size ≤ w1.heap.size := by rw [hw1]; simp
    have hold : ∀ k, k < w.heap.size → w1.heap[k]? = w.heap[k]? := fun k hk => by
      rw [hw1]
      first | exact heap_alloc_old w _ k hk | exact heap_alloc_old w k hk | exact heap_alloc_old w _ hk
    have hfy := flat_uni hu
    obtain ⟨vs, hvs, hcells, hd2, h12⟩ : ∃ vs : List Value, vs.length = xs.length * 6 ∧ (∀ j u, vs[j]? = some u → w1.cell? (ad.add j) = some u) ∧ DenL w ok (flat xs) vs ∧ ∀ (i : Nat) (u : Value), vs[i]? = some u → u.oneCell' = true := by
      by_cases hne : flat xs = []
      · refine ⟨[], ?_, by simp, by rw [hne]; exact DenL.nil _ _, by simp⟩
        rw [← hfy, hne]; rfl
      · obtain ⟨b, off, vs, hA, hvn, _, hc, hd2, h12⟩ := hrow hne
        simp at hA; subst hA
        refine ⟨vs, by rw [hd2.1, hfy], fun j u hu => ?_, hd2, h12⟩
        rw [add_none]
        have h1 := hc j u hu
        have hb : b < w.heap.size := by
          unfold World.cell? at h1
          cases hq : w.heap[b]? with
          | none => simp [hq] at h1
          | some q => exact (Array.getElem?_eq_some_iff.1 hq).1
        unfold World.cell? at h1 ⊢
        simp only at h1 ⊢
        rw [hold b hb]; exact h1
    obtain ⟨v', w2, hr, g1, g2, _, g4⟩ := run_append_own_at (P := Tryz.prog) w1 w.heap.size 71 71 147 ti z 6 80 Tryz.underlying71 hi hz hsz hby hzs (by omega) (.slice (some ⟨w.heap.size, 0, none⟩) 0 0) 0 [] hown ad xs.length cap vs hvs hcells
      (fun u hu => by obtain ⟨j, hj⟩ := List.getElem?_of_mem hu; exact h12 j u hj) (by simp only [maxLen]; omega) (by omega) hsz1
    refine wpL_cons (v := (.slice (some ⟨w.heap.size, 0, none⟩) 0 0)) (W' := w1) rfl rfl (by intro c h; cases h) (hbs rfl) ?_
    simp only [List.set_cons_zero, List.set_cons_succ]
    refine wpL_cons (v := (.slice (some ad) xs.length cap)) (W' := w1) rfl rfl (by intro c h; cases h) (ex_mv (.inl rfl) ((stA_ev _ _).trans rfl)) ?_
    simp only [List.set_cons_zero, List.set_cons_succ]
    refine wpL_cons (v := v') (W' := w2) rfl rfl (by intro c h; cases h) (ex_apmk rfl ((stA_ev _ _).trans rfl) ((stA_ev _ _).trans rfl) hr) ?_
    simp only [List.set_cons_zero, List.set_cons_succ]
    refine wpL_cons (v := v') (W' := w2) rfl rfl (by intro c h; cases h) (ex_mv (.inr rfl) ((stA_ev _ _).trans rfl)) ?_
    simp only [List.set_cons_zero, List.set_cons_succ]
    refine wpIn_ret ?_
    rw [Nat.zero_add, List.nil_append] at g1
    have hkeep : ∀ k, k < w.heap.size → w2.heap[k]? = w.heap[k]? := fun k hk => by
      rw [g2.block k (by omega) (by simp [Value.ownBlock]; omega), hold k hk]
    refine leaves_nil (v := v') (by simp [results, Tryz.f192, stA]) ⟨v', vs, rfl, g1, ?_, h12, ?_⟩
    · refine hd2.keep (fun b _ hb => hkeep b hb) (fun b hok hb => ⟨.inl hok, fun e => ?_⟩)
      rw [blk_own _ _ g1] at e
      rcases g4 with h | h
      · rw [h] at e; simp [Value.ownBlock] at e; omega
      · rw [h] at e; simp at e; omega
    · exact ⟨g2.os.trans (by rw [hw1]; rfl), g2.tape.trans (by rw [hw1]; rfl), g2.output.trans (by rw [hw1]; rfl), Nat.le_trans hsz1 g2.size, fun k hk => hkeep k hk⟩
end Go.Nv
end
