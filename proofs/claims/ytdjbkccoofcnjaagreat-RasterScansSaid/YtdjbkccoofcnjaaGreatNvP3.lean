import Derived.Test.YtdjbkccoofcnjaaGreatNvP2
set_option linter.all false
set_option linter.unusedVariables false
set_option linter.unusedSimpArgs false
section
namespace Nw
set_option linter.unusedVariables false
set_option linter.unusedSimpArgs false
def swE' (e : P2 × P2) : P2 × P2 := (e.2, e.1)
def rvE (E : List (P2 × P2)) : List (P2 × P2) := E.map swE'
def pE (o : List P2) : List (List P2) → List (P2 × P2)
  | [] => cyc o
  | h :: hs => rvE (cyc h) ++ pE o hs
def wnP (o : List P2) : List (List P2) → P2 → Int
  | [], q => wn o q
  | h :: hs, q => wnP o hs q - wn h q
def pA (x0 y0 x1 y1 : Rat) (o : List P2) : List (List P2) → Rat
  | [] => boxA x0 y0 x1 y1 o
  | h :: hs => pA x0 y0 x1 y1 o hs - boxA x0 y0 x1 y1 h
def pT (f : P2 → P2 → Rat) (o : List P2) : List (List P2) → Rat
  | [] => tot f o
  | h :: hs => pT f o hs - tot f h
def offP (o : List P2) (hs : List (List P2)) (q : P2) : Prop := offL o q ∧ ∀ h ∈ hs, offL h q
structure Aside (a b : List P2) : Prop where
  ap : Apart a b
  l : ∃ p ∈ b, wn a p = 0
  r : ∃ p ∈ a, wn b p = 0
structure Plg (o : List P2) (hs : List (List P2)) : Prop where
  so : Simp o
  ao : 0 < tot ar o
  sh : ∀ h ∈ hs, Simp h
  ah : ∀ h ∈ hs, 0 < tot ar h
  ins : ∀ h ∈ hs, Apart o h ∧ ∃ p ∈ h, wn o p ≠ 0
  sid : hs.Pairwise Aside
theorem Simp.wn01 {l : List P2} (h : Simp l) (ha : 0 < tot ar l) {q : P2} (hq : offL l q) : wn l q = 0 ∨ wn l q = 1 := by
  have := h.lvl_pos ha
  rcases h.sides hq with e | e
  · right; omega
  · left; omega
theorem holes01 : ∀ {hs : List (List P2)} {q : P2}, (∀ h ∈ hs, Simp h) → (∀ h ∈ hs, 0 < tot ar h) → hs.Pairwise Aside → (∀ h ∈ hs, offL h q) →
    (∀ h ∈ hs, wn h q = 0) ∨ ∃ h ∈ hs, wn h q = 1 ∧ ∀ o : List P2, wnP o hs q = wn o q - 1
  | [], q, _, _, _, _ => .inl (by simp)
  | a :: hs, q, s, ar', pw, of => by
    rw [List.pairwise_cons] at pw
    have zero : ∀ {hs : List (List P2)}, (∀ h ∈ hs, wn h q = 0) → ∀ o : List P2, wnP o hs q = wn o q := by
      intro hs
      induction hs with
      | nil => intro _ o; rfl
      | cons b hs ih => intro hz o; simp only [wnP]; rw [ih (fun h hh => hz h (by simp [hh])), hz b (by simp)]; omega
    have ih := holes01 (hs := hs) (q := q) (fun h hh => s h (by simp [hh])) (fun h hh => ar' h (by simp [hh])) pw.2 (fun h hh => of h (by simp [hh]))
    rcases (s a (by simp)).wn01 (ar' a (by simp)) (of a (by simp)) with ha | ha
    · rcases ih with ih | ⟨h, hh, h1, h2⟩
      · left; intro h hh
        rcases List.mem_cons.1 hh with rfl | hh
        · exact ha
        · exact ih h hh
      · right
        refine ⟨h, by simp [hh], h1, fun o => ?_⟩
        simp only [wnP]; rw [h2 o, ha]; omega
    · right
      have hz : ∀ h ∈ hs, wn h q = 0 := fun h hh => by
        obtain ⟨ap, ⟨p, hp, hp0⟩, ⟨r, hr, hr0⟩⟩ := pw.1 h hh
        rcases beside_law (s a (by simp)) ap hp hp0 hr hr0 (of a (by simp)) (of h (by simp [hh])) with e | e
        · omega
        · exact e
      refine ⟨a, by simp, ha, fun o => ?_⟩
      simp only [wnP]; rw [zero hz o, ha]
theorem wnP_zero {q : P2} : ∀ {hs : List (List P2)}, (∀ h ∈ hs, wn h q = 0) → ∀ o : List P2, wnP o hs q = wn o q
  | [], _, o => rfl
  | b :: hs, hz, o => by simp only [wnP]; rw [wnP_zero (fun h hh => hz h (by simp [hh])), hz b (by simp)]; omega
theorem Plg.hole_in {o hs} (P : Plg o hs) {q : P2} (hq : offP o hs q) {h : List P2} (hh : h ∈ hs) (h1 : wn h q ≠ 0) : wn o q = 1 := by
  obtain ⟨ap, p, hp, hp0⟩ := P.ins h hh
  rcases within_law P.so ap hp hp0 hq.1 (hq.2 h hh) with e | e
  · exact absurd e h1
  · rcases P.so.wn01 P.ao hq.1 with e2 | e2
    · rw [e2] at e; exact absurd e.symm hp0
    · exact e2
theorem Plg.wn01 {o hs} (P : Plg o hs) {q : P2} (hq : offP o hs q) : wnP o hs q = 0 ∨ wnP o hs q = 1 := by
  rcases holes01 P.sh P.ah P.sid hq.2 with hz | ⟨h, hh, h1, h2⟩
  · rw [wnP_zero hz]; exact P.so.wn01 P.ao hq.1
  · left; rw [h2, P.hole_in hq hh (by omega)]; rfl
end Nw
end
