import Derived.Test.YtdjbkccoofcnjaaGreatNvD2
set_option linter.all false
set_option linter.unusedVariables false
set_option linter.unusedSimpArgs false
section
namespace Go.Nv
open Go.Proofs Nw
set_option maxRecDepth 100000
set_option linter.unusedVariables false
set_option linter.unusedSimpArgs false
@[irreducible] def mtR (a b : List P2) : Bool := (cyc a).any fun e => (cyc b).any fun f => mtB e.1 e.2 f.1 f.2
def pmSt (a b : List P2) (i : Nat) : St := ⟨fr 36 [(1, .d (.l (pL b))), (13, .d (.l (eL (cyc a)))), (14, .d (i64 (eL (cyc a)).length)), (15, .d (i64 i))], []⟩
def pmSt2 (a b : List P2) (i k : Nat) : St := ⟨fr 36 [(1, .d (.l (pL b))), (6, .ptr 0 0 0), (13, .d (.l (eL (cyc a)))), (14, .d (i64 (eL (cyc a)).length)), (15, .d (i64 i)), (20, .d (.l (eL (cyc b)))), (21, .d (i64 (eL (cyc b)).length)), (22, .d (i64 k))],
  [.box 46 ((sD (ed a i).1 (ed a i).2).cells.map .d)]⟩
theorem ed_mem {l : List P2} {i : Nat} (h : i < l.length) : ed l i ∈ cyc l := by
  have e : (cyc l)[i]'(by rw [cyc_len]; exact h) = ed l i := by
    rw [cyc_get h]; unfold ed; rw [ix_lt h, ix_mod (show 0 < l.length by omega)]
  rw [← e]; exact List.getElem_mem _
theorem mem_ed {l : List P2} {e : P2 × P2} (h : e ∈ cyc l) : ∃ i, i < l.length ∧ e = ed l i := by
  obtain ⟨i, hi, rfl⟩ := List.getElem_of_mem h
  rw [cyc_len] at hi
  refine ⟨i, hi, ?_⟩
  rw [cyc_get hi]; unfold ed; rw [ix_lt hi, ix_mod (show 0 < l.length by omega)]
theorem pmeet_c (a b : List P2) {n : Nat} (ha : ∀ p ∈ a, BP n p) (hb : ∀ p ∈ b, BP n p) (hn : n < 10000000) (hla : a.length ≤ 100000) (hlb : b.length ≤ 100000) : Fun Tryz.prog 208 [.l (pL a), .l (pL b)] [.v (.bool (mtR a b))] := by
  have hlx : (eL (cyc a)).length = a.length := by simp [cyc_len]
  have hly : (eL (cyc b)).length = b.length := by simp [cyc_len]
  refine fun_of_go (fun t => t == 6 || t == 8 || t == 9) mixed tOk Tryz.func208 rfl rfl ?_
  conv => whnf
  refine call_data rfl rfl (edges_c a hla) ?_
  conv => whnf
  refine loop_intro (fun t => t == 6 || t == 8 || t == 9) (fun i : Nat => pmSt a b i) (fun i => i ≤ a.length ∧ ∀ j k, j < i → k < b.length → mtB (ed a j).1 (ed a j).2 (ed b k).1 (ed b k).2 = false) (fun i => a.length - i) 0 mixed tOk ⟨by omega, fun j k hj => by omega⟩ ?_ ?_
  · refine weak_r ?_ ?_ <;> repeat' (first | exact trivial | exact rfl | refine And.intro ?_ ?_)
  · rintro i ⟨hi, hno⟩
    conv => whnf
    refine cond_d (fun hlt => ?_) (fun hge => ?_)
    · have hlt' : i < a.length := by omega
      conv => whnf
      refine idx_intro (sD (ed a i).1 (ed a i).2) (cyc_at hlt') (by omega) (eL_uni _) ?_
      conv => whnf
      refine call_data rfl rfl (edges_c b hlb) ?_
      conv => whnf
      refine loop_intro (fun t => t == 6 || t == 8 || t == 9) (fun k : Nat => pmSt2 a b i k) (fun k => k ≤ b.length ∧ ∀ j, j < k → mtB (ed a i).1 (ed a i).2 (ed b j).1 (ed b j).2 = false) (fun k => b.length - k) 0 mixed tOk ⟨by omega, fun j hj => by omega⟩ ?_ ?_
      · refine weak_r ?_ ?_ <;> repeat' (first | exact trivial | exact rfl | refine And.intro ?_ ?_)
      · rintro k ⟨hk, hnok⟩
        conv => whnf
        refine cond_d (fun hlt2 => ?_) (fun hge2 => ?_)
        · have hlt2' : k < b.length := by omega
          have h1 := ed_bp ha (show 0 < a.length by omega) i
          have h2 := ed_bp hb (show 0 < b.length by omega) k
          conv => whnf
          refine idx_intro (sD (ed b k).1 (ed b k).2) (cyc_at hlt2') (by omega) (eL_uni _) ?_
          conv => whnf
          refine call_data rfl rfl (smeet_c h1.1 h1.2 h2.1 h2.2 (by omega)) ?_
          conv => whnf
          refine cond_intro (fun c3 => ?_) (fun c3 => ?_)
          · have hx : mtR a b = true := by unfold mtR; exact List.any_eq_true.2 ⟨_, ed_mem hlt', List.any_eq_true.2 ⟨_, ed_mem hlt2', c3⟩⟩
            rw [hx]
            conv => whnf
            exact ⟨rfl, trivial⟩
          · conv => whnf
            refine sd_d (by omega) ?_
            conv => whnf
            refine ⟨k + 1, ⟨by omega, fun j hj => ?_⟩, by omega, ?_⟩
            · by_cases hjk : j = k
              · subst hjk; exact c3
              · exact hnok j (by omega)
            unfold pmSt2; rw [Int.natCast_succ]
            refine weak_dead 1 rfl (weak_dead 2 rfl ?_)
            refine weak_r ?_ ?_ <;> repeat' (first | exact trivial | exact rfl | refine And.intro ?_ ?_)
        · conv => whnf
          refine sd_d (by omega) ?_
          conv => whnf
          refine ⟨i + 1, ⟨by omega, fun j k' hj hk' => ?_⟩, by omega, ?_⟩
          · by_cases hji : j = i
            · subst hji; exact hnok k' (by omega)
            · exact hno j k' (by omega) hk'
          unfold pmSt; rw [Int.natCast_succ]
          refine weak_dead 0 rfl ?_
          refine weak_r ?_ ?_ <;> repeat' (first | exact trivial | exact rfl | refine And.intro ?_ ?_)
    · have : i = a.length := by omega
      subst this
      have hx : mtR a b = false := by
        unfold mtR
        rw [List.any_eq_false]; intro e he
        rw [Bool.not_eq_true, List.any_eq_false]; intro f hf
        obtain ⟨j, hj, rfl⟩ := mem_ed he
        obtain ⟨k, hk, rfl⟩ := mem_ed hf
        rw [hno j k hj hk]; decide
      rw [hx]
      conv => whnf
      exact ⟨rfl, trivial⟩
@[irreducible] def wiB (a b : List P2) : Bool := decide (inE b = 0) && decide (0 < inV b (ix a 0))
theorem pwithin_c (a b : List P2) {n : Nat} (ha : ∀ p ∈ a, BP n p) (hb : ∀ p ∈ b, BP n p) (hn : n < 1000000) (h0 : 0 < a.length) (hlb : b.length ≤ 100000) : Fun Tryz.prog 211 [.l (pL a), .l (pL b)] [.v (.bool (wiB a b))] := by
  refine fun_of_go (fun t => false) mixed tOk Tryz.func211 rfl rfl ?_
  conv => whnf
  refine idx_intro (pD (ix a 0)) (ix_at h0) (by omega) (pL_uni _) ?_
  conv => whnf
  refine call_data rfl rfl (rinside_c b (ix a 0) hb (ha _ (ix_mem h0)) hn hlb) ?_
  conv => whnf
  refine cond_e (fun h1 => ?_) (fun h1 => ?_)
  · conv => whnf
    refine ⟨?_, trivial⟩
    conv => whnf
    rw [bz_eq]
    unfold wiB; rw [decide_eq_true h1]; rfl
  · conv => whnf
    refine ⟨?_, trivial⟩
    conv => whnf
    unfold wiB; rw [decide_eq_false h1]; rfl
theorem hole1_c (h x : List P2) {n : Nat} (ha : ∀ p ∈ h, BP n p) (hb : ∀ p ∈ x, BP n p) (hn : n < 1000000) (hla : h.length ≤ 100000) (hlb : x.length ≤ 100000) :
    Fun Tryz.prog 210 [.l (pL x), .p 0 [.l (pL h)]] [.v (.bool (mtR h x))] := by
  refine fun_of_go (fun t => false) mixed tOk Tryz.func210 rfl rfl ?_
  conv => whnf
  refine call_data rfl rfl (pmeet_c h x ha hb (by omega) hla hlb) ?_
  conv => whnf
  refine ⟨?_, trivial⟩
  conv => whnf
theorem hole2_c (h x : List P2) {n : Nat} (ha : ∀ p ∈ h, BP n p) (hb : ∀ p ∈ x, BP n p) (hn : n < 1000000) (h0 : 0 < h.length) (x0 : 0 < x.length) (hla : h.length ≤ 100000) (hlb : x.length ≤ 100000) :
    Fun Tryz.prog 212 [.l (pL x), .p 0 [.l (pL h)]] [.v (.bool (wiB h x || wiB x h))] := by
  refine fun_of_go (fun t => false) mixed tOk Tryz.func212 rfl rfl ?_
  conv => whnf
  refine call_data rfl rfl (pwithin_c h x ha hb hn h0 hlb) ?_
  conv => whnf
  refine cond_intro (fun h1 => ?_) (fun h1 => ?_)
  · conv => whnf
    refine ⟨?_, trivial⟩
    conv => whnf
    rw [h1]; rfl
  · conv => whnf
    refine call_data rfl rfl (pwithin_c x h hb ha hn x0 hla) ?_
    conv => whnf
    refine ⟨?_, trivial⟩
    conv => whnf
    rw [h1]; rfl
abbrev hQ (ls : List (List P2)) : List D := ls.map fun l => .l (pL l)
theorem hQ_uni (ls : List (List P2)) : Uni 1 (hQ ls) := by
  intro x hx
  obtain ⟨p, _, rfl⟩ := List.mem_map.1 hx
  rfl
theorem hQ_get {l : List (List P2)} {i : Nat} (h : i < l.length) : (hQ l)[(i : Int).toNat]? = some (.l (pL l[i])) := by simp [h]
theorem idx284 {f : FuncId} {cap : List D} (g : List P2 → Bool) (l : List (List P2)) (hl : l.length < 1000000000) (h : ∀ p ∈ l, Fun Tryz.prog f ([.l (pL p)] ++ cap) [.v (.bool (g p))]) :
    Fun Tryz.prog 284 [.l (hQ l), .f f cap] [i64 (fstI g l)] := by
  have hll : (hQ l).length = l.length := by simp
  refine fun_of_go (fun t => false) mixed tOk Tryz.func284 rfl rfl ?_
  conv => whnf
  refine loop_intro (fun t => false) (fun i : Nat => ⟨fr 19 [(0, .d (.l (hQ l))), (1, .d (.f f cap)), (7, .d (i64 (hQ l).length)), (8, .d (i64 i))], []⟩) (fun i => i ≤ l.length ∧ ∀ j (hj : j < i) (hjl : j < l.length), g l[j] = false) (fun i => l.length - i) 0 mixed tOk ⟨by omega, fun j hj => by omega⟩ ?_ ?_
  · refine weak_r ?_ ?_ <;> repeat' (first | exact trivial | exact rfl | refine And.intro ?_ ?_)
  · rintro i ⟨hi, hno⟩
    conv => whnf
    refine cond_d (fun hlt => ?_) (fun hge => ?_)
    · have hlt' : i < l.length := by omega
      conv => whnf
      refine idx_intro (.l (pL l[i])) (hQ_get hlt') (by omega) (hQ_uni l) ?_
      conv => whnf
      refine call_data rfl rfl (h l[i] (List.getElem_mem _)) ?_
      conv => whnf
      refine cond_intro (fun h1 => ?_) (fun h1 => ?_)
      · rw [fstI_at hlt' (fun j hj => hno j hj (by omega)) h1]
        conv => whnf
        exact ⟨rfl, trivial⟩
      · conv => whnf
        refine sd_d (by omega) ?_
        conv => whnf
        refine ⟨i + 1, ⟨by omega, fun j hj hjl => ?_⟩, by omega, ?_⟩
        · by_cases hji : j = i
          · subst hji; exact h1
          · exact hno j (by omega) hjl
        rw [Int.natCast_succ]
        refine weak_r ?_ ?_ <;> repeat' (first | exact trivial | exact rfl | refine And.intro ?_ ?_)
    · have : i = l.length := by omega
      subst this
      rw [fstI_no (fun j hj => hno j hj hj)]
      conv => whnf
      exact ⟨rfl, trivial⟩
theorem contains209 {f : FuncId} {cap : List D} (g : List P2 → Bool) (l : List (List P2)) (hl : l.length < 1000000000) (h : ∀ p ∈ l, Fun Tryz.prog f ([.l (pL p)] ++ cap) [.v (.bool (g p))]) :
    Fun Tryz.prog 209 [.l (hQ l), .f f cap] [.v (.bool (l.any g))] := by
  refine fun_of_go (fun t => false) mixed tOk Tryz.func209 rfl rfl ?_
  conv => whnf
  refine call_data rfl rfl (idx284 g l hl h) ?_
  conv => whnf
  refine ⟨?_, trivial⟩
  conv => whnf
  rw [bz_eq, ← fstI_any]
end Go.Nv
end
section
namespace Go.Nv
open Go.Proofs Nw
set_option maxRecDepth 100000
set_option linter.unusedVariables false
set_option linter.unusedSimpArgs false
abbrev hR (hs : List (List (RD × RD))) : List D := hs.map fun h => .l (rL h)
abbrev pgR (o : List (RD × RD)) (hs : List (List (RD × RD))) : D := .a [.l (rL o), .l (hR hs)]
theorem hR_uni (ls : List (List (RD × RD))) : Uni 1 (hR ls) := by
  intro x hx
  obtain ⟨p, _, rfl⟩ := List.mem_map.1 hx
  rfl
theorem hR_get {l : List (List (RD × RD))} {i : Nat} (h : i < l.length) : (hR l)[(i : Int).toNat]? = some (.l (rL l[i])) := by simp [h]
theorem hR_can {ls : List (List (RD × RD))} (h : ∀ l ∈ ls, l.all okR = true) : hR ls = hQ (ls.map (List.map vP)) := by
  unfold hR hQ
  rw [List.map_map]
  refine List.map_congr_left fun l hl => ?_
  show D.l (rL l) = D.l (pL (l.map vP))
  rw [rL_can (h l hl)]
theorem rgR_zero {l : List (RD × RD)} (h : rgR l = 0) : l.all okR = true ∧ rgE (l.map vP) = 0 ∧ 3 ≤ l.length ∧ l.length ≤ 64 := by
  unfold rgR at h
  split at h
  · exact absurd h (by decide)
  · rename_i h1
    split at h
    · rename_i h2; exact ⟨h2, h, by omega, by omega⟩
    · exact absurd h (by decide)
@[irreducible] def hoE (o : List P2) (pre : List (List P2)) (h : List P2) : Int :=
  if mtR h o = true ∨ pre.any (fun x => mtR h x) = true then 13
  else if wiB h o = false then 14
  else if pre.any (fun x => wiB h x || wiB x h) = true then 22
  else if 0 < pre.length ∧ 0 ≤ cmP (ix (pre.getD (pre.length - 1) []) 0) (ix h 0) then 8
  else 0
theorem chole_c (o : List (RD × RD)) (hs : List (List (RD × RD))) (i : Nat) (hi : i < hs.length) {n : Nat} (hn : n < 1000000) (hlen : hs.length ≤ 100000)
    (ho : rgR o = 0) (hob : ∀ p ∈ o, BP n (vP p)) (hpre : ∀ h ∈ hs.take i, rgR h = 0) (hb : ∀ h ∈ hs, ∀ p ∈ h, BP n (vP p) ∧ SzP p) (hlb : ∀ h ∈ hs, h.length ≤ 100000) :
    Fun Tryz.prog 120 [pgR o hs, i64 i] [i64 (if rgR hs[i] ≠ 0 then rgR hs[i] else hoE (o.map vP) ((hs.take i).map (List.map vP)) (hs[i].map vP))] := by
  have hll : (hR hs).length = hs.length := by simp
  have hmem : hs[i] ∈ hs := List.getElem_mem _
  obtain ⟨o1, o2, o3, o4⟩ := rgR_zero ho
  have oq : ∀ p ∈ o.map vP, BP n p := fun p hp => by obtain ⟨q, hq, rfl⟩ := List.mem_map.1 hp; exact hob q hq
  have ol : (o.map vP).length = o.length := List.length_map ..
  have esub : subL (hR hs) (Int.toNat 0) ((i : Nat) : Int).toNat = hQ ((hs.take i).map (List.map vP)) := by
    rw [← hR_can (fun l hl => (rgR_zero (hpre l hl)).1)]
    simp [subL, hR, List.map_take]
  have pq : ∀ x ∈ (hs.take i).map (List.map vP), (∀ p ∈ x, BP n p) ∧ 0 < x.length ∧ x.length ≤ 100000 := fun x hx => by
    obtain ⟨q, hq, rfl⟩ := List.mem_map.1 hx
    have h1 := rgR_zero (hpre q hq)
    have hl1 : (q.map vP).length = q.length := List.length_map ..
    exact ⟨fun p hp => by obtain ⟨r, hr, rfl⟩ := List.mem_map.1 hp; exact (hb q (List.mem_of_mem_take hq) r hr).1, by omega, by omega⟩
  have plen : ((hs.take i).map (List.map vP)).length = i := by rw [List.length_map, List.length_take]; omega
  generalize (hs.take i).map (List.map vP) = pre at *
  have hget := hR_get hi
  have hhb := hb _ hmem
  have hhl := hlb _ hmem
  generalize hs[i] = h at *
  rw [show pgR o hs = .a [.l (pL (o.map vP)), .l (hR hs)] by unfold pgR; rw [rL_can o1]]
  generalize o.map vP = o' at *
  refine fun_of_go (fun t => t == 5) mixed tOk Tryz.func120 rfl rfl ?_
  conv => whnf
  refine idx_intro (.l (rL h)) hget (by omega) (hR_uni _) ?_
  conv => whnf
  refine sd_du (by simp; omega) (hR_uni _) ?_
  conv => whnf
  refine safe_intro (by kernel_rfl) ?_
  conv => whnf
  have hSz : ∀ p ∈ h, SzP p := fun p hp => (hhb p hp).2
  have hBp : ∀ p ∈ h, BP n (vP p) := fun p hp => (hhb p hp).1
  refine call_data rfl rfl (rcheck_c h hSz hBp hn hhl) ?_
  conv => whnf
  refine cond_ne (fun c1 => ?_) (fun c1 => ?_)
  · rw [if_pos c1]
    conv => whnf
    exact ⟨rfl, trivial⟩
  rw [if_neg (fun hh => hh c1)]
  obtain ⟨k1, k2, k3, k4⟩ := rgR_zero c1
  have hq : ∀ p ∈ h.map vP, BP n p := fun p hp => by obtain ⟨r, hr, rfl⟩ := List.mem_map.1 hp; exact hBp r hr
  have hvl : (h.map vP).length = h.length := List.length_map ..
  rw [rL_can k1]
  generalize h.map vP = h' at *
  rw [esub]
  conv => whnf
  refine call_data rfl rfl (pmeet_c h' o' hq oq (by omega) (by omega) (by omega)) ?_
  conv => whnf
  refine cond_intro (fun c2 => ?_) (fun c2 => ?_)
  · have e : hoE o' pre h' = 13 := by unfold hoE; rw [if_pos (.inl c2)]
    rw [e]
    conv => whnf
    exact ⟨rfl, trivial⟩
  conv => whnf
  refine call_lend rfl rfl (contains209 (fun x => mtR h' x) pre (by omega) (fun x hx => hole1_c h' x hq (pq x hx).1 hn (by omega) (pq x hx).2.2)) rfl ?_
  refine cond_intro (fun c3 => ?_) (fun c3 => ?_)
  · have e : hoE o' pre h' = 13 := by unfold hoE; rw [if_pos (.inr c3)]
    rw [e]
    conv => whnf
    exact ⟨rfl, trivial⟩
  refine call_data rfl rfl (pwithin_c h' o' hq oq hn (by omega) (by omega)) ?_
  conv => whnf
  have n1 : ¬ (mtR h' o' = true ∨ pre.any (fun x => mtR h' x) = true) := by rw [c2, c3]; decide
  refine cond_nb (fun c4 => ?_) (fun c4 => ?_)
  · have e : hoE o' pre h' = 14 := by unfold hoE; rw [if_neg n1, if_pos c4]
    rw [e]
    conv => whnf
    exact ⟨rfl, trivial⟩
  have n2 : ¬ wiB h' o' = false := by rw [c4]; decide
  conv => whnf
  refine call_lend rfl rfl (contains209 (fun x => wiB h' x || wiB x h') pre (by omega) (fun x hx => hole2_c h' x hq (pq x hx).1 hn (by omega) (pq x hx).2.1 (by omega) (pq x hx).2.2)) rfl ?_
  conv => whnf
  refine cond_intro (fun c5 => ?_) (fun c5 => ?_)
  · have e : hoE o' pre h' = 22 := by unfold hoE; rw [if_neg n1, if_neg n2, if_pos c5]
    rw [e]
    conv => whnf
    exact ⟨rfl, trivial⟩
  have n3 : ¬ pre.any (fun x => wiB h' x || wiB x h') = true := by rw [c5]; decide
  have e0 : hoE o' pre h' = if 0 < pre.length ∧ 0 ≤ cmP (ix (pre.getD (pre.length - 1) []) 0) (ix h' 0) then 8 else 0 := by
    unfold hoE; rw [if_neg n1, if_neg n2, if_neg n3]
  rw [e0]
  refine cond_d (fun c6 => ?_) (fun c6 => ?_)
  · have hlt : pre.length - 1 < pre.length := by omega
    have eg : pre.getD (pre.length - 1) [] = pre[pre.length - 1] := by rw [List.getD_eq_getElem?_getD, List.getElem?_eq_getElem hlt]; rfl
    rw [eg]
    have hx := pq _ (List.getElem_mem hlt)
    have gx : (hQ pre)[((i : Int) - 1).toNat]? = some (.l (pL pre[pre.length - 1])) := by
      have e : ((i : Int) - 1) = ((pre.length - 1 : Nat) : Int) := by omega
      rw [e]; exact hQ_get hlt
    generalize pre[pre.length - 1] = x at *
    conv => whnf
    refine sd_d (by omega) ?_
    conv => whnf
    refine idx_intro (.l (pL x)) gx (by omega) (hQ_uni _) ?_
    conv => whnf
    refine idx_intro (pD (ix x 0)) (ix_at hx.2.1) (by omega) (pL_uni _) ?_
    conv => whnf
    refine idx_intro (pD (ix h' 0)) (ix_at (show 0 < h'.length by omega)) (by omega) (pL_uni _) ?_
    conv => whnf
    have q1 := (hx.1 _ (ix_mem hx.2.1 (k := 0))).q (by omega)
    have q2 := (hq _ (ix_mem (show 0 < h'.length by omega) (k := 0))).q (by omega)
    refine callv_data (vcmp_c q1.1 q1.2 q2.1 q2.2) ?_
    conv => whnf
    refine safe_intro (by kernel_rfl) ?_
    conv => whnf
    refine cond_d (fun c7 => ?_) (fun c7 => ?_)
    · rw [if_pos ⟨by omega, c7⟩]
      conv => whnf
      exact ⟨rfl, trivial⟩
    · rw [if_neg (fun hh => c7 hh.2)]
      conv => whnf
      exact ⟨rfl, trivial⟩
  · rw [if_neg (fun hh => c6 (by omega))]
    conv => whnf
    refine safe_intro (by kernel_rfl) ?_
    conv => whnf
    exact ⟨rfl, trivial⟩
def hoL (o : List P2) : List (List P2) → List (List (RD × RD)) → Int
  | _, [] => 0
  | pre, h :: hs => if rgR h ≠ 0 then rgR h else if hoE o pre (h.map vP) ≠ 0 then hoE o pre (h.map vP) else hoL o (pre ++ [h.map vP]) hs
@[irreducible] def pgE (o : List (RD × RD)) (hs : List (List (RD × RD))) : Int :=
  if rgR o ≠ 0 then rgR o else if 8 < hs.length then 4 else hoL (o.map vP) [] hs
theorem pcheck_c (o : List (RD × RD)) (hs : List (List (RD × RD))) {n : Nat} (hn : n < 1000000) (hlo : o.length ≤ 100000) (hlen : hs.length ≤ 100000)
    (hob : ∀ p ∈ o, BP n (vP p) ∧ SzP p) (hb : ∀ h ∈ hs, ∀ p ∈ h, BP n (vP p) ∧ SzP p) (hlb : ∀ h ∈ hs, h.length ≤ 100000) :
    Fun Tryz.prog 48 [pgR o hs] [i64 (pgE o hs)] := by
  have hll : (hR hs).length = hs.length := by simp
  refine fun_of_go (fun t => false) mixed tOk Tryz.func48 rfl rfl ?_
  conv => whnf
  refine call_data rfl rfl (rcheck_c o (fun p hp => (hob p hp).2) (fun p hp => (hob p hp).1) hn hlo) ?_
  conv => whnf
  refine cond_ne (fun c1 => ?_) (fun c1 => ?_)
  · have e : pgE o hs = rgR o := by unfold pgE; rw [if_pos c1]
    rw [e]
    conv => whnf
    exact ⟨rfl, trivial⟩
  conv => whnf
  refine cond_d (fun c2 => ?_) (fun c2 => ?_)
  · have e : pgE o hs = 4 := by unfold pgE; rw [if_neg (fun hh => hh c1), if_pos (by omega)]
    rw [e]
    conv => whnf
    exact ⟨rfl, trivial⟩
  have e0 : pgE o hs = hoL (o.map vP) [] hs := by unfold pgE; rw [if_neg (fun hh => hh c1), if_neg (by omega)]
  rw [e0]
  conv => whnf
  refine loop_intro (fun t => false) (fun i : Nat => ⟨fr 29 [(1, .d (.p 0 [.l (rL o), .l (hR hs)])), (18, .d (i64 (hR hs).length)), (19, .d (i64 i))], []⟩)
    (fun i => i ≤ hs.length ∧ (∀ h ∈ hs.take i, rgR h = 0) ∧ hoL (o.map vP) [] hs = hoL (o.map vP) ((hs.take i).map (List.map vP)) (hs.drop i)) (fun i => hs.length - i) 0 mixed tOk ⟨by omega, by simp, by simp⟩ ?_ ?_
  · refine weak_r ?_ ?_ <;> repeat' (first | exact trivial | exact rfl | refine And.intro ?_ ?_)
  · rintro i ⟨hi, hpre, heq⟩
    rw [heq]
    conv => whnf
    refine cond_d (fun hlt => ?_) (fun hge => ?_)
    · have hlt' : i < hs.length := by omega
      rw [List.drop_eq_getElem_cons hlt']
      have hk := chole_c o hs i hlt' hn hlen c1 (fun p hp => (hob p hp).1) hpre hb hlb
      have htk : hs.take (i + 1) = hs.take i ++ [hs[i]] := List.take_succ_eq_append_getElem hlt'
      have hst : rgR hs[i] = 0 → hoE (o.map vP) ((hs.take i).map (List.map vP)) (hs[i].map vP) = 0 → hoL (o.map vP) ((hs.take i).map (List.map vP)) (hs[i] :: hs.drop (i + 1)) = hoL (o.map vP) ((hs.take (i + 1)).map (List.map vP)) (hs.drop (i + 1)) := fun h1 h2 => by
        rw [hoL, if_neg (fun hh => hh h1), if_neg (fun hh => hh h2), htk, List.map_append]; rfl
      have hend : (if rgR hs[i] ≠ 0 then rgR hs[i] else hoE (o.map vP) ((hs.take i).map (List.map vP)) (hs[i].map vP)) ≠ 0 → hoL (o.map vP) ((hs.take i).map (List.map vP)) (hs[i] :: hs.drop (i + 1)) = (if rgR hs[i] ≠ 0 then rgR hs[i] else hoE (o.map vP) ((hs.take i).map (List.map vP)) (hs[i].map vP)) := fun h1 => by
        rw [hoL]
        split
        · rfl
        · rename_i h2
          rw [if_neg h2] at h1
          rw [if_pos h1]
      have hze : (if rgR hs[i] ≠ 0 then rgR hs[i] else hoE (o.map vP) ((hs.take i).map (List.map vP)) (hs[i].map vP)) = 0 → rgR hs[i] = 0 ∧ hoE (o.map vP) ((hs.take i).map (List.map vP)) (hs[i].map vP) = 0 := fun h1 => by
        split at h1
        · rename_i h2; exact absurd h1 h2
        · rename_i h2; exact ⟨Classical.not_not.1 h2, h1⟩
      generalize (if rgR hs[i] ≠ 0 then rgR hs[i] else hoE (o.map vP) ((hs.take i).map (List.map vP)) (hs[i].map vP)) = k at *
      conv => whnf
      refine call_data rfl rfl hk ?_
      conv => whnf
      refine cond_ne (fun c3 => ?_) (fun c3 => ?_)
      · rw [hend c3]
        conv => whnf
        exact ⟨rfl, trivial⟩
      · obtain ⟨z1, z2⟩ := hze c3
        rw [hst z1 z2]
        conv => whnf
        refine sd_d (by omega) ?_
        conv => whnf
        refine ⟨i + 1, ⟨by omega, fun h hh => ?_, ?_⟩, by omega, ?_⟩
        · rw [htk] at hh
          rcases List.mem_append.1 hh with hh | hh
          · exact hpre h hh
          · rw [List.mem_singleton.1 hh]; exact z1
        · rfl
        rw [Int.natCast_succ]
        refine weak_r ?_ ?_ <;> repeat' (first | exact trivial | exact rfl | refine And.intro ?_ ?_)
    · have : i = hs.length := by omega
      subst this
      rw [List.drop_length, hoL]
      conv => whnf
      exact ⟨rfl, trivial⟩
end Go.Nv
end
section
namespace Go.Nv
open Go.Proofs Nw
set_option maxRecDepth 100000
set_option linter.unusedVariables false
set_option linter.unusedSimpArgs false
theorem BP.mono {n m : Nat} {p : P2} (h : BP n p) (hm : n ≤ m) : BP m p := ⟨h.1.mono hm, h.2.mono hm⟩
theorem cyc_mem {l : List P2} {e : P2 × P2} (h : e ∈ cyc l) : e.1 ∈ l ∧ e.2 ∈ l := by
  obtain ⟨i, hi, rfl⟩ := List.getElem_of_mem h
  rw [cyc_len] at hi
  rw [cyc_get hi]
  exact ⟨List.getElem_mem _, List.getElem_mem _⟩
def cuSt (f : FuncId) (cap : List D) (l m : List P2) (i : Nat) : St :=
  ⟨fr 64 [(0, .d (.l (pL l))), (1, .d (.f f cap)), (5, .own 1 0), (13, .d (.l (pL l))), (14, .d (i64 (pL l).length)), (15, .d (i64 i))], [.dead, .row 0 29 6 80 (pL m)]⟩
end Go.Nv
end
