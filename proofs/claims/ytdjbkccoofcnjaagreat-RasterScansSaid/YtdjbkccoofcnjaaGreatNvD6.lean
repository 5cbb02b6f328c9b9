import Derived.Test.YtdjbkccoofcnjaaGreatNvD5
set_option linter.all false
set_option linter.unusedVariables false
set_option linter.unusedSimpArgs false
section
namespace Go.Nv
open Go.Proofs Nw
set_option maxRecDepth 100000
set_option linter.unusedVariables false
set_option linter.unusedSimpArgs false
end Go.Nv
end
section
namespace Go.Nv
open Go.Proofs Nw
set_option maxRecDepth 100000
set_option linter.unusedVariables false
set_option linter.unusedSimpArgs false
def whL : List (List P2) → P2 → Int
  | [], _ => 1
  | h :: hs, q => if 0 - inV h q ≤ 0 then 0 - inV h q else whL hs q
def whV (o : List P2) (hs : List (List P2)) (q : P2) : Int := if inV o q ≤ 0 then inV o q else whL hs q
theorem on_wn {a b : List P2} (ha : RgOk a) (h : Apart a b) {p : P2} (hp : p ∈ a) {q : P2} (hq : ¬ offL a q) : wn b q = wn b p := by
  obtain ⟨u, hu⟩ := wn_along h
  unfold offL at hq
  simp only [Classical.not_forall, ne_eq, Classical.not_not] at hq
  obtain ⟨e, he, t, t0, t1, rfl⟩ := hq
  rw [hu e he t t0 t1, along_vert hu hp]
theorem whL_cases {q : P2} : ∀ {hs : List (List P2)}, (∀ h ∈ hs, RgOk h) → whL hs q = 0 ∨ (whL hs q = 1 ∧ ∀ h ∈ hs, offL h q ∧ wn h q = 0) ∨ (whL hs q = -1 ∧ ∃ h ∈ hs, offL h q ∧ wn h q = 1)
  | [], _ => .inr (.inl ⟨rfl, by simp⟩)
  | h :: hs, hr => by
    have ih := whL_cases (q := q) (hs := hs) (fun x hx => hr x (by simp [hx]))
    rw [whL]
    rcases (hr h (by simp)).inV q with ⟨e, _⟩ | ⟨e, h1, h2⟩ | ⟨e, h1, h2⟩
    · rw [e]; exact .inl rfl
    · rw [e]; exact .inr (.inr ⟨rfl, h, by simp, h1, h2⟩)
    · rw [e, if_neg (by decide)]
      rcases ih with i | ⟨i, k⟩ | ⟨i, x, hx, k⟩
      · exact .inl i
      · refine .inr (.inl ⟨i, fun y hy => ?_⟩)
        rcases List.mem_cons.1 hy with rfl | hy
        · exact ⟨h1, h2⟩
        · exact k y hy
      · exact .inr (.inr ⟨i, x, by simp [hx], k⟩)
theorem aside_wn : ∀ {hs : List (List P2)} {q : P2}, (∀ h ∈ hs, RgOk h) → hs.Pairwise Aside → ∀ h ∈ hs, offL h q → wn h q = 1 → ∀ x ∈ hs, offL x q ∧ (x = h ∨ wn x q = 0)
  | [], q, _, _, h, hh, _, _, x, hx => by simp at hx
  | a :: hs, q, hr, pw, h, hh, h1, h2, x, hx => by
    rw [List.pairwise_cons] at pw
    have pair : ∀ {u v : List P2}, RgOk u → RgOk v → Aside u v → offL u q → wn u q = 1 → offL v q ∧ wn v q = 0 := fun {u v} hu hv A o1 o2 => by
      obtain ⟨ap, ⟨p, hp, hp0⟩, ⟨r, hrm, hr0⟩⟩ := A
      have ov : offL v q := Classical.byContradiction fun hn => by
        have := on_wn hv ap.symm hp hn
        omega
      refine ⟨ov, ?_⟩
      rcases beside_law hu.simp ap hp hp0 hrm hr0 o1 ov with e | e
      · omega
      · exact e
    have flip : ∀ {u v : List P2}, Aside u v → Aside v u := fun A => ⟨A.ap.symm, A.r, A.l⟩
    by_cases ea : h = a
    · by_cases ex : x = a
      · rw [ex, ← ea]; exact ⟨h1, .inl rfl⟩
      · have hx' : x ∈ hs := (List.mem_cons.1 hx).resolve_left ex
        have := pair (hr a (by simp)) (hr x (by simp [hx'])) (pw.1 x hx') (ea ▸ h1) (ea ▸ h2)
        exact ⟨this.1, .inr this.2⟩
    · have hh' : h ∈ hs := (List.mem_cons.1 hh).resolve_left ea
      by_cases ex : x = a
      · rw [ex]
        have := pair (hr h (by simp [hh'])) (hr a (by simp)) (flip (pw.1 h hh')) h1 h2
        exact ⟨this.1, .inr this.2⟩
      · exact aside_wn (fun y hy => hr y (by simp [hy])) pw.2 h hh' h1 h2 x ((List.mem_cons.1 hx).resolve_left ex)
theorem whV_cases {o : List P2} {hs : List (List P2)} (P : Plg o hs) (ho : RgOk o) (hr : ∀ h ∈ hs, RgOk h) (q : P2) :
    whV o hs q = 0 ∨ (whV o hs q = 1 ∧ wn o q = 1 ∧ ∀ h ∈ hs, wn h q = 0) ∨ (whV o hs q = -1 ∧ offP o hs q ∧ ((wn o q = 0 ∧ ∀ h ∈ hs, wn h q = 0) ∨ (wn o q = 1 ∧ ∃ h ∈ hs, wn h q = 1 ∧ ∀ x ∈ hs, x = h ∨ wn x q = 0))) := by
  unfold whV
  rcases ho.inV q with ⟨e, _⟩ | ⟨e, h1, h2⟩ | ⟨e, h1, h2⟩
  · rw [e]; exact .inl rfl
  · rw [e, if_neg (by decide)]
    rcases whL_cases (q := q) hr with i | ⟨i, k⟩ | ⟨i, h, hh, k1, k2⟩
    · exact .inl i
    · exact .inr (.inl ⟨i, h2, fun h hh => (k h hh).2⟩)
    · have hall := aside_wn hr P.sid h hh k1 k2
      exact .inr (.inr ⟨i, ⟨h1, fun x hx => (hall x hx).1⟩, .inr ⟨h2, h, hh, k2, fun x hx => (hall x hx).2⟩⟩)
  · rw [e, if_pos (by decide)]
    have hoff : offP o hs q := ⟨h1, fun h hh => Classical.byContradiction fun hn => by
      obtain ⟨ap, p, hp, hp0⟩ := P.ins h hh
      have := on_wn (hr h hh) ap.symm hp hn
      omega⟩
    refine .inr (.inr ⟨rfl, hoff, .inl ⟨h2, fun h hh => ?_⟩⟩)
    rcases (hr h hh).simp.wn01 (hr h hh).area (hoff.2 h hh) with e | e
    · exact e
    · have := P.hole_in hoff hh (by omega); omega
theorem whV_out {o : List P2} {hs : List (List P2)} (P : Plg o hs) (ho : RgOk o) (hr : ∀ h ∈ hs, RgOk h) {q : P2} (h : whV o hs q < 0) : offP o hs q ∧ wnP o hs q = 0 := by
  rcases whV_cases P ho hr q with e | ⟨e, _⟩ | ⟨_, hoff, h1⟩
  · omega
  · omega
  · refine ⟨hoff, ?_⟩
    rcases h1 with ⟨h1, h2⟩ | ⟨h1, x, hx, h2, h3⟩
    · rw [wnP_zero h2, h1]
    · rcases holes01 P.sh P.ah P.sid hoff.2 with hz | ⟨y, hy, _, h5⟩
      · have := hz x hx; omega
      · rw [h5, h1]; rfl
def arS (o : List P2) (hs : List (List P2)) : Rat := hs.foldl (fun a h => a - tot crQ h / 2) (tot crQ o / 2)
def sumN (f : Nat → Rat) : Nat → Rat
  | 0 => 0
  | n + 1 => sumN f n + f n
def ppA (x0 y0 x1 y1 : Rat) (c r : Int) (o : List P2) (hs : List (List P2)) (j : Nat) : Rat :=
  pA (pxQ x0 y0 x1 y1 c r j).1.1 (pxQ x0 y0 x1 y1 c r j).1.2 (pxQ x0 y0 x1 y1 c r j).2.1 (pxQ x0 y0 x1 y1 c r j).2.2 o hs
def midP (a b : P2) : P2 := lin a b (1 / 2)
end Go.Nv
end
section
namespace Go.Nv
open Go.Proofs Nw
set_option maxRecDepth 100000
set_option linter.unusedVariables false
set_option linter.unusedSimpArgs false
theorem rings_c (o : List P2) (hs : List (List P2)) : Fun Tryz.prog 215 [.a [.l (pL o), .l (hQ hs)]] [.f 285 [.p 0 [.l (pL o), .l (hQ hs)]]] := by
  refine fun_of_go (fun t => false) mixed tOk Tryz.func215 rfl rfl ?_
  conv => whnf
  refine ⟨?_, trivial⟩
  conv => whnf
  rfl
theorem inV_rng (l : List P2) (p : P2) : inV l p = 0 ∨ inV l p = 1 ∨ inV l p = -1 := by
  unfold inV
  split
  · exact .inl rfl
  · split
    · exact .inl rfl
    · split
      · exact .inr (.inl rfl)
      · exact .inr (.inr rfl)
noncomputable def whSt (o : List P2) (hs : List (List P2)) (q : P2) (i : Nat) : St :=
  ⟨fr 25 [(0, .own 1 0), (1, .d (.p 0 [.l (pL o), .l (hQ hs)])), (11, .d (.l (hQ hs))), (12, .d (i64 (hQ hs).length)), (13, .d (i64 i))],
   [.box 3 [.d (i64 0)],
    .loop .ready none #[11, 12] (rfO Tryz.f122.body).1 (rfO Tryz.f122.body).2 (fr 26 [(3, .d (.p 0 (pD q).cells)), (4, .ptr 0 0 0)])]⟩
theorem where_c {o : List P2} {hs : List (List P2)} {q : P2} {n : Nat} (ho : ∀ p ∈ o, BP n p) (hlo : o.length ≤ 100) (hh : ∀ h ∈ hs, (∀ p ∈ h, BP n p) ∧ h.length ≤ 100) (hq : BP n q) (hn : n < 10000) (hlh : hs.length ≤ 8) :
    Fun Tryz.prog 122 [.a [.l (pL o), .l (hQ hs)], pD q] [i64 (whV o hs q)] := by
  have hll : (hQ hs).length = hs.length := by simp
  have r0 := inV_rng o q
  refine fun_of_go (fun t => t == 4 || t == 5 || t == 6 || t == 7 || t == 8) mixed tOk Tryz.func122 rfl rfl ?_
  conv => whnf
  refine call_data rfl rfl (rings_c o hs) ?_
  conv => whnf
  refine range_intro (g := 285) (cap := [.d (.p 0 [.l (pL o), .l (hQ hs)])]) (fun t => t == 4 || t == 5 || t == 6 || t == 7 || t == 8) mixed tOk rfl rfl rfl rfl rfl ?_
  conv => whnf
  refine call_yield (fun t => t == 4 || t == 5 || t == 6 || t == 7 || t == 8) mixed tOk rfl rfl rfl ?_
  conv => whnf
  refine call_data rfl rfl (rinside_c o q ho hq (by omega) (by omega)) ?_
  conv => whnf
  refine cond_df (by decide) ?_
  conv => whnf
  refine cond_d (fun c1 => ?_) (fun c1 => ?_)
  · rw [show whV o hs q = inV o q by unfold whV; rw [if_pos c1]]
    conv => whnf
    refine ⟨?_, trivial⟩
    conv => whnf
  rw [show whV o hs q = whL hs q by unfold whV; rw [if_neg c1]]
  conv => whnf
  refine loop_introD (fun t => t == 4 || t == 5 || t == 6 || t == 7 || t == 8) (fun i : Nat => whSt o hs q i) (fun i => i ≤ hs.length ∧ whL hs q = whL (hs.drop i) q) (fun i => hs.length - i) 0 mixed tOk ⟨by omega, rfl⟩ ?_ ?_
  · refine weak_dead 2 rfl ?_
    refine weak_l ?_ ?_ <;> repeat' (first | exact trivial | exact rfl | refine And.intro ?_ ?_)
  · rintro i ⟨hi, heq⟩
    rw [heq]
    conv => whnf
    refine cond_d (fun hlt => ?_) (fun hge => ?_)
    · have hlt' : i < hs.length := by omega
      have hm := hh _ (List.getElem_mem hlt')
      have r1 := inV_rng hs[i] q
      rw [List.drop_eq_getElem_cons hlt', whL]
      conv => whnf
      refine idx_intro (.l (pL hs[i])) (hQ_get hlt') (by omega) (hQ_uni _) ?_
      conv => whnf
      refine sd_d (by omega) ?_
      conv => whnf
      refine call_yield (fun t => t == 4 || t == 5 || t == 6 || t == 7 || t == 8) mixed tOk rfl rfl rfl ?_
      conv => whnf
      refine call_data rfl rfl (rinside_c hs[i] q hm.1 hq (by omega) (by omega)) ?_
      conv => whnf
      refine cond_dt (by omega) ?_
      conv => whnf
      refine sd_d (by omega) ?_
      conv => whnf
      refine cond_d (fun c2 => ?_) (fun c2 => ?_)
      · rw [if_pos c2]
        conv => whnf
        refine ⟨?_, trivial⟩
        conv => whnf
      · rw [if_neg c2]
        conv => whnf
        refine sd_d (by omega) ?_
        conv => whnf
        refine ⟨i + 1, ⟨by omega, rfl⟩, by omega, ?_⟩
        unfold whSt
        rw [Int.natCast_succ]
        refine weak_dead 2 rfl ?_
        refine weak_l ?_ ?_ <;> repeat' (first | exact trivial | exact rfl | refine And.intro ?_ ?_)
    · have : i = hs.length := by omega
      subst this
      rw [List.drop_length, whL]
      conv => whnf
      refine ⟨?_, trivial⟩
      conv => whnf
theorem pinside_c {o : List P2} {hs : List (List P2)} {q : P2} {n : Nat} (hck : Fun Tryz.prog 48 [.a [.l (pL o), .l (hQ hs)]] [i64 0]) (ho : ∀ p ∈ o, BP n p) (hlo : o.length ≤ 100) (hh : ∀ h ∈ hs, (∀ p ∈ h, BP n p) ∧ h.length ≤ 100) (hq : BP n q) (hn : n < 10000) (hlh : hs.length ≤ 8) :
    Fun Tryz.prog 51 [.a [.l (pL o), .l (hQ hs)], pD q] [i64 (whV o hs q), i64 0] := by
  refine fun_of_go (fun t => false) mixed tOk Tryz.func51 rfl rfl ?_
  conv => whnf
  refine call_data rfl rfl hck ?_
  conv => whnf
  refine cond_bf (by decide) ?_
  conv => whnf
  refine call_data rfl rfl (vcheck_q (.mk hq.1 (by omega)) (.mk hq.2 (by omega))) ?_
  conv => whnf
  refine cond_bf (by decide) ?_
  conv => whnf
  refine call_data rfl rfl (where_c ho hlo hh hq hn hlh) ?_
  conv => whnf
  refine ⟨?_, ?_, trivial⟩
  · conv => whnf
  · conv => whnf
end Go.Nv
end
