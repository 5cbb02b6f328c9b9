import Derived.Test.YtdjbkccoofcnjaaGreatNvD5
import Derived.Test.YtdjbkccoofcnjaaGreatNvC10
import Derived.Test.YtdjbkccoofcnjaaGreatNvN6
import Derived.Test.YtdjbkccoofcnjaaGreatNvD6
set_option linter.all false
set_option linter.unusedVariables false
set_option linter.unusedSimpArgs false
section
namespace Go.Nv
open Go.Proofs Nw
set_option maxRecDepth 100000
set_option linter.unusedVariables false
set_option linter.unusedSimpArgs false
def trP (v p : P2) : P2 := (p.1 + v.1, p.2 + v.2)
def trL (v : P2) (l : List P2) : List P2 := l.map (trP v)
def trE (v : P2) (e : P2 × P2) : P2 × P2 := (trP v e.1, trP v e.2)
theorem trP_inj {v p q : P2} : trP v p = trP v q ↔ p = q := by
  unfold trP
  constructor
  · intro h
    simp only [Prod.mk.injEq] at h
    exact Prod.ext (by grind) (by grind)
  · intro h; rw [h]
theorem tr_su (v p q : P2) : su (trP v p) (trP v q) = su p q := by
  unfold su trP; simp only [Prod.mk.injEq]; constructor <;> grind
theorem tr_orQ (v a b c : P2) : orQ (trP v a) (trP v b) (trP v c) = orQ a b c := by
  simp only [orQ, trP]; grind
theorem tr_orI (v a b c : P2) : orI (trP v a) (trP v b) (trP v c) = orI a b c := by unfold orI; rw [tr_orQ]
theorem tr_cmpI (p q a : Rat) : cmpI (p + a) (q + a) = cmpI p q := by
  rw [cmpI_eq, cmpI_eq]; unfold cmpQ
  have h1 : (p + a < q + a) ↔ p < q := by constructor <;> grind
  have h2 : (q + a < p + a) ↔ q < p := by constructor <;> grind
  simp only [h1, h2]
theorem tr_cmP (v p q : P2) : cmP (trP v p) (trP v q) = cmP p q := by
  unfold cmP trP; simp only [tr_cmpI]
theorem tr_ordP (v a b : P2) : ordP (trP v a) (trP v b) = (trP v (ordP a b).1, trP v (ordP a b).2) := by
  unfold ordP; rw [tr_cmP]; split <;> rfl
theorem tr_gtrP (v a b : P2) : gtrP (trP v a) (trP v b) = trP v (gtrP a b) := by unfold gtrP; rw [tr_cmP]; split <;> rfl
theorem tr_lsrP (v a b : P2) : lsrP (trP v a) (trP v b) = trP v (lsrP a b) := by unfold lsrP; rw [tr_cmP]; split <;> rfl
theorem tr_mtQ (v a b c d : P2) : (mtQ (trP v a) (trP v b) (trP v c) (trP v d)).isSome = (mtQ a b c d).isSome := by
  unfold mtQ
  rw [tr_su, tr_su, tr_su]
  by_cases h1 : crQ (su b a) (su d c) = 0
  · rw [if_pos h1, if_pos h1]
    by_cases h2 : crQ (su b a) (su c a) = 0
    · rw [if_pos h2, if_pos h2, tr_ordP, tr_ordP]
      simp only [tr_gtrP, tr_lsrP, tr_cmP]
      split <;> rfl
    · rw [if_neg h2, if_neg h2]
  · rw [if_neg h1, if_neg h1]
    split <;> rfl
theorem tr_mtB (v a b c d : P2) : mtB (trP v a) (trP v b) (trP v c) (trP v d) = mtB a b c d := by
  unfold mtB; rw [tr_mtQ]; simp only [trP_inj]
theorem trL_len (v : P2) (l : List P2) : (trL v l).length = l.length := List.length_map ..
theorem tr_ix {v : P2} {l : List P2} (h : 0 < l.length) (i : Nat) : ix (trL v l) i = trP v (ix l i) := by
  rw [ix_mod (l := trL v l) (by rw [trL_len]; exact h), ix_mod h]
  simp only [trL_len]
  unfold trL; rw [List.getElem_map]
theorem tr_prs (v : P2) : ∀ (l : List P2) (a : P2), prs (trP v a) (trL v l) = (prs a l).map (trE v)
  | [], a => rfl
  | b :: l, a => by
    show (trP v a, trP v b) :: prs (trP v b) (trL v l) = trE v (a, b) :: (prs b l).map (trE v)
    rw [tr_prs v l b]; rfl
theorem tr_cyc (v : P2) (l : List P2) : cyc (trL v l) = (cyc l).map (trE v) := by
  cases l with
  | nil => rfl
  | cons a l =>
    show prs (trP v a) (trL v l ++ [trP v a]) = (prs a (l ++ [a])).map (trE v)
    rw [← tr_prs]; unfold trL; rw [List.map_append]; rfl
theorem sumE_map (f : P2 → P2 → Rat) (v : P2) : ∀ E : List (P2 × P2), sumE f (E.map (trE v)) = sumE (fun p q => f (trP v p) (trP v q)) E
  | [] => rfl
  | e :: E => by simp only [List.map_cons, sumE]; rw [sumE_map f v E]; rfl
theorem tr_ar (v : P2) (l : List P2) : tot ar (trL v l) = tot ar l := by
  have e := tr_cyc v l
  unfold tot
  rw [e, sumE_map]
  have c : Cob (fun p q => ar (trP v p) (trP v q)) ar := ⟨fun p => v.1 * p.2 - v.2 * p.1, fun p q => by simp only [ar, trP]; grind⟩
  exact c.sum (cyc_clo l)
theorem tr_crQ (v : P2) (l : List P2) : tot crQ (trL v l) = tot crQ l := tr_ar v l
theorem tr_flB {v : P2} {l : List P2} (h : 0 < l.length) (i : Nat) : flB (trL v l) i = flB l i := by
  unfold flB; rw [trL_len, tr_ix h, tr_ix h, tr_ix h, tr_orI]
theorem tr_xB {v : P2} {l : List P2} (h : 0 < l.length) (i k : Nat) : xB (trL v l) i k = xB l i k := by
  unfold xB ed; rw [trL_len, tr_ix h, tr_ix h, tr_ix h, tr_ix h, tr_mtB]
theorem tr_crB {v : P2} {l : List P2} (h : 0 < l.length) : crB (trL v l) = crB l := by
  unfold crB; rw [trL_len]
  simp only [tr_xB h]
theorem tr_kf {v : P2} {l : List P2} (h : 0 < l.length) : ∀ i, kf (trL v l) i = kf l i
  | 0 => rfl
  | i + 1 => by
    unfold kf
    rw [tr_kf h i, tr_ix h, tr_ix h, tr_cmP]
theorem RgOk.tr {l : List P2} (h : RgOk l) (v : P2) : RgOk (trL v l) := by
  have h0 : 0 < l.length := by have := h.len; omega
  refine ⟨by rw [trL_len]; exact h.len, fun i hi => ?_, ?_, ?_, ?_⟩
  · rw [tr_flB h0]; exact h.fl i (by rw [trL_len] at hi; exact hi)
  · rw [tr_crB h0]; exact h.cr
  · rw [tr_crQ]; exact h.pos
  · rw [trL_len, tr_kf h0]; exact h.fst
def Hf.tr (H : Hf) (v : P2) : Hf := ⟨H.ax, H.up, H.c + (if H.ax then v.1 else v.2)⟩
end Go.Nv
end
section
namespace Go.Nv
open Go.Proofs Nw
set_option maxRecDepth 100000
set_option linter.unusedVariables false
set_option linter.unusedSimpArgs false
end Go.Nv
end
section
namespace Go.Nv
open Go.Proofs Nw
set_option maxRecDepth 100000
set_option linter.unusedVariables false
set_option linter.unusedSimpArgs false
def Ord (hs : List (List P2)) : Prop := ∀ i, i + 1 < hs.length → cmP (ix (hs.getD i []) 0) (ix (hs.getD (i + 1) []) 0) < 0
noncomputable def caSt (o : List P2) (hs : List (List P2)) (i : Nat) : St :=
  ⟨fr 25 [(0, .own 4 0), (1, .d (.p 0 [.l (pL o), .l (hQ hs)])), (11, .d (.l (hQ hs))), (12, .d (i64 (hQ hs).length)), (13, .d (i64 i))],
   [.box 25 [.d (.v (.slice none 0 0)), .d (.v (.slice none 0 0))], .box 35 [.d (i64 0)], .box 25 [.d (.l (pL o)), .own 3 0], .row 0 22 1 24 (hQ (hs.take i)),
    .loop .ready none #[12, 13] (rfO Tryz.f204.body).1 (rfO Tryz.f204.body).2 (fr 43 [(2, .ptr 0 0 0), (3, .ptr 1 0 0), (4, .ptr 2 0 0)])]⟩
def trH (v : P2) (hs : List (List P2)) : List (List P2) := hs.map (trL v)
end Go.Nv
end
