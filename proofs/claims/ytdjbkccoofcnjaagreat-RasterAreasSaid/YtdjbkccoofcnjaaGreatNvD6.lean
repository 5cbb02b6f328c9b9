import Derived.Test.YtdjbkccoofcnjaaGreatNvD5
set_option linter.all false
set_option linter.unusedVariables false
set_option linter.unusedSimpArgs false
section
namespace Go.Nv
open Go.Proofs Nw
set_option maxRecDepth 100000
set_option linter.unusedVariables false
set_option linter.unusedSimpArgs false
theorem qm_get {g : Nat → Rat} {N : Nat} {x : Int} {J : Nat} (h : x = (J : Int)) (hJ : J < N) : (qL ((List.range N).map g))[x.toNat]? = some (ratD (g J)) := by
  rw [h, Int.toNat_natCast]; simp [hJ]
@[irreducible] def sBd : Nat := 200000000
theorem sBd_eq : sBd = 200000000 := by unfold sBd; rfl
theorem snum {m N w : Nat} (h : m ≤ 1024) (hN : N ≤ 192746) (hw : w = 200000000) : m * N + 1 ≤ w := by
  have h1 := Nat.mul_le_mul h hN
  rw [hw]
  omega
theorem wiQ_sharp {x0 y0 x1 y1 : Rat} {l : List P2} {n k : Nat} (h0 : Bd k x0) (h1 : Bd k y0) (h2 : Bd k x1) (h3 : Bd k y1) (hl : ∀ p ∈ l, BP n p) (hn : n ≤ 12) (hk : k ≤ 40) (hlen : l.length ≤ 64) : Bd sBd (wiQ x0 y0 x1 y1 l) := by
  have a1 := cut_bp (H := ⟨true, true, x0⟩) h0 hl
  have a2 := cut_bp (H := ⟨true, false, x1⟩) h2 a1
  have a3 := cut_bp (H := ⟨false, true, y0⟩) h1 a2
  have a4 := cut_bp (H := ⟨false, false, y1⟩) h3 a3
  have l1 := cut_len ⟨true, true, x0⟩ l
  have l2 := cut_len ⟨true, false, x1⟩ (cut ⟨true, true, x0⟩ l)
  have l3 := cut_len ⟨false, true, y0⟩ (cut ⟨true, false, x1⟩ (cut ⟨true, true, x0⟩ l))
  have l4 := cut_len ⟨false, false, y1⟩ (cut ⟨false, true, y0⟩ (cut ⟨true, false, x1⟩ (cut ⟨true, true, x0⟩ l)))
  have pts : ∀ p ∈ box4 x0 y0 x1 y1 l, BP 48186 p := fun p hp => (a4 p hp).mono (by omega)
  have len : (box4 x0 y0 x1 y1 l).length ≤ 1024 := by unfold box4; omega
  have b1 := area_bd pts _ (Nat.le_refl _)
  rw [tot_all] at b1
  exact (b1.div (bd_int 2 (n := 1) (by decide))).mono (snum len (by decide) sBd_eq)
theorem cvS_sharp {x0 y0 x1 y1 : Rat} {o : List P2} {hs : List (List P2)} (ho : Bd sBd (wiQ x0 y0 x1 y1 o)) (hh : ∀ h ∈ hs, Bd sBd (wiQ x0 y0 x1 y1 h)) : ∀ i, i ≤ hs.length → Bd ((i + 1) * (sBd + 1)) (cvS x0 y0 x1 y1 o (hs.take i))
  | 0, _ => by
    show Bd _ (wiQ x0 y0 x1 y1 o)
    exact ho.mono (by omega)
  | i + 1, h => by
    rw [cvS_take h]
    exact ((cvS_sharp ho hh i (by omega)).sub (hh _ (List.getElem_mem h))).mono (by rw [Nat.add_mul (i + 1) 1]; omega)
theorem cvQ_sharp {x0 y0 x1 y1 : Rat} {o : List P2} {hs : List (List P2)} {n k : Nat} (h0 : Bd k x0) (h1 : Bd k y0) (h2 : Bd k x1) (h3 : Bd k y1) (hl : ∀ p ∈ o, BP n p) (hhl : ∀ h ∈ hs, (∀ p ∈ h, BP n p) ∧ h.length ≤ 64) (hn : n ≤ 12) (hk : k ≤ 40) (hlen : o.length ≤ 64) (hhs : hs.length ≤ 8) :
    Bd 2000000000 (cvQ x0 y0 x1 y1 o hs) := by
  have hb := cvS_sharp (wiQ_sharp h0 h1 h2 h3 hl hn hk hlen) (fun h hh => wiQ_sharp h0 h1 h2 h3 (hhl h hh).1 hn hk (hhl h hh).2) hs.length (Nat.le_refl _)
  rw [List.take_length] at hb
  have hm : (hs.length + 1) * (sBd + 1) ≤ 9 * (sBd + 1) := Nat.mul_le_mul_right _ (by omega)
  have he := sBd_eq
  have bd : Bd (4 * k + 2) ((x1 - x0) * (y1 - y0)) := ((h2.sub h0).mul (h3.sub h1)).mono (by omega)
  exact (hb.div bd).mono (by omega)
end Go.Nv
end
section
namespace Go.Nv
open Go.Proofs Nw
set_option maxRecDepth 100000
set_option linter.unusedVariables false
set_option linter.unusedSimpArgs false
theorem gtP_ok {p : RD × RD} (h : gtP p = false) : BP 12 (vP p) ∧ SzP p := by
  unfold gtP at h
  rw [Bool.or_eq_false_iff] at h
  exact ⟨⟨gtR_bd h.1, gtR_bd h.2⟩, gtR_sz h.1, gtR_sz h.2⟩
theorem g22_ok {o : List (RD × RD)} {hs : List (List (RD × RD))} (h : g22 o hs = false) : PgOk o hs 12 := by
  unfold g22 at h
  rw [Bool.or_eq_false_iff] at h
  have g := g11_f h.1
  exact ⟨by have := g.lo; omega, by have := g.lh; omega, fun p hp => gtP_ok (g.ob p hp), fun x hx p hp => gtP_ok (g.hb x hx p hp), fun x hx => by have := g.hl x hx; omega⟩
theorem cvP_sharp {o : List (RD × RD)} {hs : List (List (RD × RD))} (h : PgOk o hs 12) (hp : pgE o hs = 0) {x0 y0 x1 y1 : Rat} (h0 : Bd 12 x0) (h1 : Bd 12 y0) (h2 : Bd 12 x1) (h3 : Bd 12 y1) {c r : Int} (hcr : 1 ≤ c ∧ c ≤ 128) (hrr : 1 ≤ r ∧ r ≤ 128) (j : Nat) (hj : (j : Int) < c * r) :
    Bd 2000000000 (cvP x0 y0 x1 y1 c r (o.map vP) (hs.map (List.map vP)) j) := by
  obtain ⟨z1, z2, z3, z4⟩ := pgE_zero hp
  obtain ⟨o1, o2, o3, o4⟩ := rgR_zero z1
  have ob : ∀ p ∈ o.map vP, BP 12 p := fun p hp => by obtain ⟨q, hq, rfl⟩ := List.mem_map.1 hp; exact (h.ob q hq).1
  have hb : ∀ x ∈ hs.map (List.map vP), (∀ p ∈ x, BP 12 p) ∧ x.length ≤ 64 := fun x hx => by
    obtain ⟨q, hq, rfl⟩ := List.mem_map.1 hx
    refine ⟨fun p hp => by obtain ⟨r, hr, rfl⟩ := List.mem_map.1 hp; exact (h.hb q hq r hr).1, ?_⟩
    have := rgR_zero (z2 q hq)
    rw [List.length_map]; omega
  have ol : (o.map vP).length = o.length := List.length_map ..
  have hhl : (hs.map (List.map vP)).length = hs.length := List.length_map ..
  have d1 := Int.tmod_nonneg (b := c) (a := (j : Int)) (by omega)
  have d2 := Int.tmod_lt_of_pos (j : Int) (b := c) (by omega)
  have d3 : 0 ≤ Int.tdiv (j : Int) c := Int.tdiv_nonneg (by omega) (by omega)
  have d4 : Int.tdiv (j : Int) c < r := by
    rw [Int.tdiv_eq_ediv_of_nonneg (by omega)]
    exact Int.ediv_lt_of_lt_mul (by omega) (by rw [Int.mul_comm]; exact hj)
  have p1 : Bd 40 (pxX x0 x1 c (Int.tmod j c)) := (pxX_bd h0 h2 (by omega) (by omega)).mono (by omega)
  have p2 : Bd 40 (pxY y0 y1 r (Int.tdiv j c + 1)) := (pxY_bd h1 h3 (by omega) (by omega)).mono (by omega)
  have p3 : Bd 40 (pxX x0 x1 c (Int.tmod j c + 1)) := (pxX_bd h0 h2 (by omega) (by omega)).mono (by omega)
  have p4 : Bd 40 (pxY y0 y1 r (Int.tdiv j c)) := (pxY_bd h1 h3 (by omega) (by omega)).mono (by omega)
  have main := cvQ_sharp p1 p2 p3 p4 ob hb (by omega) (by omega) (by omega) (by omega)
  unfold cvP pxQ
  exact main
end Go.Nv
end
