import Derived.Test.YtdjbkccoofcnjaaGreatNvD1
import Derived.Test.YtdjbkccoofcnjaaGreatNvP1
set_option linter.all false
set_option linter.unusedVariables false
set_option linter.unusedSimpArgs false
section
namespace Go.Nv
open Go.Proofs Nw
set_option maxRecDepth 100000
set_option linter.unusedVariables false
set_option linter.unusedSimpArgs false
def bd (m v : Nat) : List UInt8 := (N8.dl m v).reverse.map UInt8.ofNat
theorem bd_length (m v : Nat) : (bd m v).length = m := by simp [bd, N8.dl_length]
theorem bvl_rev : ∀ (l : List Nat), N8.Lim l → bvl (l.reverse.map UInt8.ofNat) = N8.lv l
  | [], _ => rfl
  | x :: l, h => by
    have hx := h x (List.mem_cons_self ..)
    have ih := bvl_rev l fun y hy => h y (List.mem_cons_of_mem _ hy)
    rw [List.reverse_cons, List.map_append, List.map_cons, List.map_nil, bvl_snoc, ih, N8.lv]
    simp only [UInt8.toNat_ofNat']
    omega
theorem bvl_bd (m v : Nat) : bvl (bd m v) = v % 256 ^ m := by
  unfold bd; rw [bvl_rev _ (N8.lim_dl m v), N8.lv_dl]
theorem bd_zero (m : Nat) : bd m 0 = List.replicate m 0 := by
  unfold bd; rw [N8.dl_zero]; simp
theorem bd_get {m j : Nat} (v : Nat) (h : j < m) : (bd m v)[m - 1 - j]? = some (UInt8.ofNat (v / 256 ^ j % 256)) := by
  unfold bd
  rw [List.getElem?_map, List.getElem?_reverse (by rw [N8.dl_length]; omega), N8.dl_length, show m - 1 - (m - 1 - j) = j by omega, N8.dl_get v h]
  rfl
theorem set_rev (l : List Nat) (j d : Nat) (h : j < l.length) : (l.reverse.map UInt8.ofNat).set (l.length - 1 - j) (UInt8.ofNat d) = ((l.set j d).reverse).map UInt8.ofNat := by
  apply List.ext_getElem?
  intro i
  rw [List.getElem?_set, List.getElem?_map, List.getElem?_map]
  simp only [List.length_map, List.length_reverse]
  by_cases hi : i < l.length
  · rw [List.getElem?_reverse hi, List.getElem?_reverse (by simpa using hi), List.getElem?_set]
    simp only [List.length_set]
    by_cases e : l.length - 1 - j = i
    · rw [if_pos e, if_pos (by omega), if_pos (by omega), if_pos (by omega)]; rfl
    · rw [if_neg e, if_neg (by omega)]
  · rw [List.getElem?_eq_none (by simp; omega), List.getElem?_eq_none (by simp; omega), if_neg (by omega)]
theorem bd_set {m j d : Nat} (R : Nat) (hj : j < m) (hd : d < 256) : (bd m R).set (m - 1 - j) (UInt8.ofNat d) = bd m (R % 256 ^ j + (d + R / 256 ^ (j + 1) * 256) * 256 ^ j) := by
  unfold bd
  have := set_rev (N8.dl m R) j d (by rw [N8.dl_length]; exact hj)
  rw [N8.dl_length] at this
  rw [this, N8.dl_set R hd]
theorem bd_mod_set {m i : Nat} (v : Nat) (hi : i < m) : (bd m (v % 256 ^ i)).set (m - 1 - i) (UInt8.ofNat (v / 256 ^ i % 256)) = bd m (v % 256 ^ (i + 1)) := by
  unfold bd
  have := set_rev (N8.dl m (v % 256 ^ i)) i (v / 256 ^ i % 256) (by rw [N8.dl_length]; exact hi)
  rw [N8.dl_length] at this
  rw [this, N8.dl_mod_set v hi]
theorem take_val (l : List UInt8) (k : Nat) (h : k ≤ l.length) : bvl (l.take (l.length - k)) = bvl l / 256 ^ k := by
  have e := bvl_append (l.take (l.length - k)) (l.drop (l.length - k))
  rw [List.take_append_drop] at e
  have hl : (l.drop (l.length - k)).length = k := by rw [List.length_drop]; omega
  have hb := bvl_lt (l.drop (l.length - k))
  rw [hl] at e hb
  rw [e, Nat.mul_comm, Nat.mul_add_div (Nat.pow_pos (by omega)), Nat.div_eq_of_lt hb]; rfl
theorem bt_end (s : ByteArray) (k : Nat) (h : k < s.size) : bt s ((s.size : Int) - ((k + 1 : Nat) : Int)) = ((bv s / 256 ^ k % 256 : Nat) : Int) := by
  obtain ⟨p1, p2⟩ := pre_step s (s.size - (k + 1)) (by omega)
  have e : ((s.size : Int) - ((k + 1 : Nat) : Int)) = ((s.size - (k + 1) : Nat) : Int) := by omega
  rw [e, p1]
  have hl : s.data.toList.length = s.size := rfl
  have t1 := take_val s.data.toList (k + 1) (by omega)
  have t2 := take_val s.data.toList k (by omega)
  rw [hl] at t1 t2
  unfold pre at p2
  rw [t1, show s.size - (k + 1) + 1 = s.size - k by omega, t2] at p2
  unfold bv
  generalize bvl s.data.toList / 256 ^ (k + 1) = a at *
  generalize bvl s.data.toList / 256 ^ k = b at *
  have := (s.data.toList[s.size - (k + 1)]'(by omega)).toNat_lt
  congr 1
  omega
theorem by8_rep (m : Nat) : by8 (List.replicate m 0) = List.replicate m (.v (.int .u8 0)) := by unfold by8; simp
theorem by8_set (l : List UInt8) (i : Nat) (x : UInt8) : by8 (l.set i x) = (by8 l).set i (.v (.int .u8 (x.toNat : Int))) := by unfold by8; simp [List.map_set]
theorem by8_val (l : List UInt8) : ∀ x ∈ by8 l, ∃ u, x = .v u := by
  unfold by8; intro x hx; simp only [List.mem_map] at hx; obtain ⟨n, _, rfl⟩ := hx; exact ⟨_, rfl⟩
theorem div0 (s : ByteArray) (k : Nat) (h : s.size ≤ k) : bv s / 256 ^ k % 256 = 0 := by
  have h1 : bv s < 256 ^ s.size := bvl_lt _
  have h2 := Nat.pow_le_pow_right (n := 256) (by omega) h
  rw [Nat.div_eq_of_lt (by omega)]
theorem sh8i (n : Int) : Int.fdiv n (2 ^ min ((8 : Int).toNat) IntKind.i64.bits) = n / 256 := by
  have : ((2 : Int) ^ min (Int.toNat 8) IntKind.i64.bits) = 256 := by decide
  rw [this, Int.fdiv_eq_ediv_of_nonneg _ (by omega)]
theorem raddMag_c (s t : ByteArray) (hs : s.size < 1000000000000) (ht : t.size < 1000000000000) : Fun Tryz.prog 257 [.v (.string s), .v (.string t)] [.v (.string (nb (bv s + bv t)))] := by
  refine fun_of_go (fun t => false) mixed tOk Tryz.func257 rfl rfl ?_
  conv => whnf
  generalize hm : (if (s.size : Int) < (t.size : Int) then (t.size : Int) else (s.size : Int)) = M
  obtain ⟨m, rfl, m1, m2⟩ : ∃ m : Nat, M = m ∧ s.size ≤ m ∧ t.size ≤ m := ⟨M.toNat, by omega, by omega, by omega⟩
  have m3 : m < 1000000000000 := by omega
  refine sd_d (by omega) ?_
  conv => whnf
  refine sd_d (by simp only [maxLen]; omega) ?_
  conv => whnf
  refine loop_intro (fun t => false) (fun k : Nat => ⟨fr 60 [(0, .d (.v (.string s))), (1, .d (.v (.string t))), (5, .d (i64 ((m : Int) + 1))), (6, .own 0 0), (7, .d (i64 (N8.car (bv s) (bv t) k : Nat))), (8, .d (i64 ((k + 1 : Nat) : Int)))], [.row 0 5 1 1 (by8 (bd (m + 1) ((bv s + bv t) % 256 ^ k)))]⟩) (fun k => k ≤ m + 1) (fun k => m + 1 - k) 0 mixed tOk (Nat.zero_le _) ?_ ?_
  · refine weak_r ⟨⟨rfl, rfl, rfl, rfl, ?_⟩, trivial⟩ ⟨rfl, rfl, ?_, trivial, ?_, ?_, trivial⟩
    · show List.replicate _ _ = _
      rw [Nat.pow_zero, Nat.mod_one, bd_zero, by8_rep]; congr 1
    · conv => whnf
    · conv => whnf
      simp [N8.car, Nat.mod_one]
    · rfl
  · intro k hk
    conv => whnf
    have hcar := N8.car_le (bv s) (bv t) k
    have hx : bv s / 256 ^ k % 256 < 256 := Nat.mod_lt _ (by omega)
    have hy : bv t / 256 ^ k % 256 < 256 := Nat.mod_lt _ (by omega)
    have hst := N8.car_step (bv s) (bv t) k
    have hset := bd_mod_set (m := m + 1) (bv s + bv t) (i := k)
    have hl := by8_length (bd (m + 1) ((bv s + bv t) % 256 ^ k))
    rw [bd_length] at hl
    refine cond_d (fun h2 => ?_) (fun h2 => ?_) <;> conv => whnf
    · refine cond_d (fun h3 => ?_) (fun h3 => ?_) <;> conv => whnf
      · refine sd_d (by omega) ?_
        conv => whnf
        refine sd_d (by omega) ?_
        conv => whnf
        rw [bt_end s k (by omega)]
        conv => whnf
        refine sd_d (by omega) ?_
        conv => whnf
        refine sd_d (by omega) ?_
        conv => whnf
        refine cond_d (fun h4 => ?_) (fun h4 => ?_) <;> conv => whnf
        · refine sd_d (by omega) ?_
          conv => whnf
          refine sd_d (by omega) ?_
          conv => whnf
          rw [bt_end t k (by omega)]
          conv => whnf
          refine sd_d (by omega) ?_
          conv => whnf
          refine sd_d (by omega) ?_
          conv => whnf
          refine sd_d (by omega) ?_
          conv => whnf
          refine sd_du (by omega) (by8_uni _) ?_
          conv => whnf
          refine rst_one (by omega) (by8_val _) rfl ?_
          conv => whnf
          refine sd_d (by omega) ?_
          conv => whnf
          refine sd_d (by omega) ?_
          conv => whnf
          refine ⟨k + 1, by omega, by omega, weak_r ⟨⟨rfl, rfl, rfl, rfl, ?_⟩, trivial⟩ ⟨rfl, rfl, ?_, trivial, ?_, ?_, trivial⟩⟩
          · rw [← hset (by omega), by8_set]
            congr 1
            · omega
            · congr 2
              simp only [UInt8.toNat_ofNat']
              omega
          · conv => whnf
          · conv => whnf
            rw [sh8i]
            omega
          · conv => whnf
            omega
        · have zy := div0 t k (by omega)
          refine sd_d (by omega) ?_
          conv => whnf
          refine sd_du (by omega) (by8_uni _) ?_
          conv => whnf
          refine rst_one (by omega) (by8_val _) rfl ?_
          conv => whnf
          refine sd_d (by omega) ?_
          conv => whnf
          refine sd_d (by omega) ?_
          conv => whnf
          refine ⟨k + 1, by omega, by omega, weak_r ⟨⟨rfl, rfl, rfl, rfl, ?_⟩, trivial⟩ ⟨rfl, rfl, ?_, trivial, ?_, ?_, trivial⟩⟩
          · rw [← hset (by omega), by8_set]
            congr 1
            · omega
            · congr 2
              simp only [UInt8.toNat_ofNat']
              omega
          · conv => whnf
          · conv => whnf
            rw [sh8i]
            omega
          · conv => whnf
            omega
      · have zx := div0 s k (by omega)
        refine cond_d (fun h4 => ?_) (fun h4 => ?_) <;> conv => whnf
        · refine sd_d (by omega) ?_
          conv => whnf
          refine sd_d (by omega) ?_
          conv => whnf
          rw [bt_end t k (by omega)]
          conv => whnf
          refine sd_d (by omega) ?_
          conv => whnf
          refine sd_d (by omega) ?_
          conv => whnf
          refine sd_d (by omega) ?_
          conv => whnf
          refine sd_du (by omega) (by8_uni _) ?_
          conv => whnf
          refine rst_one (by omega) (by8_val _) rfl ?_
          conv => whnf
          refine sd_d (by omega) ?_
          conv => whnf
          refine sd_d (by omega) ?_
          conv => whnf
          refine ⟨k + 1, by omega, by omega, weak_r ⟨⟨rfl, rfl, rfl, rfl, ?_⟩, trivial⟩ ⟨rfl, rfl, ?_, trivial, ?_, ?_, trivial⟩⟩
          · rw [← hset (by omega), by8_set]
            congr 1
            · omega
            · congr 2
              simp only [UInt8.toNat_ofNat']
              omega
          · conv => whnf
          · conv => whnf
            rw [sh8i]
            omega
          · conv => whnf
            omega
        · have zy := div0 t k (by omega)
          refine sd_d (by omega) ?_
          conv => whnf
          refine sd_du (by omega) (by8_uni _) ?_
          conv => whnf
          refine rst_one (by omega) (by8_val _) rfl ?_
          conv => whnf
          refine sd_d (by omega) ?_
          conv => whnf
          refine sd_d (by omega) ?_
          conv => whnf
          refine ⟨k + 1, by omega, by omega, weak_r ⟨⟨rfl, rfl, rfl, rfl, ?_⟩, trivial⟩ ⟨rfl, rfl, ?_, trivial, ?_, ?_, trivial⟩⟩
          · rw [← hset (by omega), by8_set]
            congr 1
            · omega
            · congr 2
              simp only [UInt8.toNat_ofNat']
              omega
          · conv => whnf
          · conv => whnf
            rw [sh8i]
            omega
          · conv => whnf
            omega
    · have hk2 : k = m + 1 := by omega
      refine sd_intro (by8_all _) ?_
      conv => whnf
      refine call_data rfl rfl (rtrim_c _) ?_
      conv => whnf
      refine ⟨?_, trivial⟩
      conv => whnf
      have b1 : bv s < 256 ^ s.size := bvl_lt _
      have b2 : bv t < 256 ^ t.size := bvl_lt _
      have b3 := Nat.pow_le_pow_right (n := 256) (by omega) m1
      have b4 := Nat.pow_le_pow_right (n := 256) (by omega) m2
      rw [bv_by8, bvl_bd, hk2, Nat.mod_mod, Nat.mod_eq_of_lt (by rw [Nat.pow_succ]; omega)]
theorem rsubMag_c (s t : ByteArray) (hs : s.size < 1000000000000) (ht : t.size < 1000000000000) (hle : bv t ≤ bv s) : Fun Tryz.prog 259 [.v (.string s), .v (.string t)] [.v (.string (nb (bv s - bv t)))] := by
  refine fun_of_go (fun t => false) mixed tOk Tryz.func259 rfl rfl ?_
  conv => whnf
  generalize hm : s.size = m at hs
  refine sd_d (by simp only [maxLen]; omega) ?_
  conv => whnf
  refine loop_intro (fun t => false) (fun k : Nat => ⟨fr 55 [(0, .d (.v (.string s))), (1, .d (.v (.string t))), (5, .own 0 0), (6, .d (i64 (N8.bor (bv s) (bv t) k : Nat))), (7, .d (i64 ((k + 1 : Nat) : Int)))], [.row 0 5 1 1 (by8 (bd m ((bv s - bv t) % 256 ^ k)))]⟩) (fun k => k ≤ m) (fun k => m - k) 0 mixed tOk (Nat.zero_le _) ?_ ?_
  · refine weak_r ⟨⟨rfl, rfl, rfl, rfl, ?_⟩, trivial⟩ ⟨rfl, rfl, trivial, ?_, ?_, trivial⟩
    · show List.replicate _ _ = _
      rw [Nat.pow_zero, Nat.mod_one, bd_zero, by8_rep]; congr 1
    · conv => whnf
      simp [N8.bor, Nat.mod_one]
    · rfl
  · intro k hk
    conv => whnf
    have hbor := N8.bor_le (bv s) (bv t) k
    have hx : bv s / 256 ^ k % 256 < 256 := Nat.mod_lt _ (by omega)
    have hy : bv t / 256 ^ k % 256 < 256 := Nat.mod_lt _ (by omega)
    have hst := N8.bor_step (bv s) (bv t) k
    have hdg := N8.sub_dig (bv s) (bv t) k hle
    have hset := bd_mod_set (m := m) (bv s - bv t) (i := k)
    have hl := by8_length (bd m ((bv s - bv t) % 256 ^ k))
    rw [bd_length] at hl
    refine cond_d (fun h2 => ?_) (fun h2 => ?_) <;> conv => whnf
    · refine sd_d (by omega) ?_
      conv => whnf
      refine sd_d (by omega) ?_
      conv => whnf
      rw [bt_end s k (by omega)]
      conv => whnf
      refine sd_d (by omega) ?_
      conv => whnf
      refine sd_d (by omega) ?_
      conv => whnf
      refine cond_d (fun h4 => ?_) (fun h4 => ?_) <;> conv => whnf
      · refine sd_d (by omega) ?_
        conv => whnf
        refine sd_d (by omega) ?_
        conv => whnf
        rw [bt_end t k (by omega)]
        conv => whnf
        refine sd_d (by omega) ?_
        conv => whnf
        refine sd_d (by omega) ?_
        conv => whnf
        refine cond_d (fun h5 => ?_) (fun h5 => ?_) <;> conv => whnf
        · refine sd_d (by omega) ?_
          conv => whnf
          refine sd_d (by omega) ?_
          conv => whnf
          refine sd_du (by omega) (by8_uni _) ?_
          conv => whnf
          refine rst_one (by omega) (by8_val _) rfl ?_
          conv => whnf
          refine sd_d (by omega) ?_
          conv => whnf
          refine ⟨k + 1, by omega, by omega, weak_r ⟨⟨rfl, rfl, rfl, rfl, ?_⟩, trivial⟩ ⟨rfl, rfl, trivial, ?_, ?_, trivial⟩⟩
          · rw [← hset (by omega), by8_set]
            congr 1
            · omega
            · congr 2
              simp only [UInt8.toNat_ofNat']
              omega
          · conv => whnf
            rw [hst]
            split <;> omega
          · conv => whnf
            omega
        · refine sd_d (by omega) ?_
          conv => whnf
          refine sd_du (by omega) (by8_uni _) ?_
          conv => whnf
          refine rst_one (by omega) (by8_val _) rfl ?_
          conv => whnf
          refine sd_d (by omega) ?_
          conv => whnf
          refine ⟨k + 1, by omega, by omega, weak_r ⟨⟨rfl, rfl, rfl, rfl, ?_⟩, trivial⟩ ⟨rfl, rfl, trivial, ?_, ?_, trivial⟩⟩
          · rw [← hset (by omega), by8_set]
            congr 1
            · omega
            · congr 2
              simp only [UInt8.toNat_ofNat']
              omega
          · conv => whnf
            rw [hst]
            split <;> omega
          · conv => whnf
            omega
      · have zy := div0 t k (by omega)
        refine cond_d (fun h5 => ?_) (fun h5 => ?_) <;> conv => whnf
        · refine sd_d (by omega) ?_
          conv => whnf
          refine sd_d (by omega) ?_
          conv => whnf
          refine sd_du (by omega) (by8_uni _) ?_
          conv => whnf
          refine rst_one (by omega) (by8_val _) rfl ?_
          conv => whnf
          refine sd_d (by omega) ?_
          conv => whnf
          refine ⟨k + 1, by omega, by omega, weak_r ⟨⟨rfl, rfl, rfl, rfl, ?_⟩, trivial⟩ ⟨rfl, rfl, trivial, ?_, ?_, trivial⟩⟩
          · rw [← hset (by omega), by8_set]
            congr 1
            · omega
            · congr 2
              simp only [UInt8.toNat_ofNat']
              omega
          · conv => whnf
            rw [hst]
            split <;> omega
          · conv => whnf
            omega
        · refine sd_d (by omega) ?_
          conv => whnf
          refine sd_du (by omega) (by8_uni _) ?_
          conv => whnf
          refine rst_one (by omega) (by8_val _) rfl ?_
          conv => whnf
          refine sd_d (by omega) ?_
          conv => whnf
          refine ⟨k + 1, by omega, by omega, weak_r ⟨⟨rfl, rfl, rfl, rfl, ?_⟩, trivial⟩ ⟨rfl, rfl, trivial, ?_, ?_, trivial⟩⟩
          · rw [← hset (by omega), by8_set]
            congr 1
            · omega
            · congr 2
              simp only [UInt8.toNat_ofNat']
              omega
          · conv => whnf
            rw [hst]
            split <;> omega
          · conv => whnf
            omega
    · have hk2 : k = m := by omega
      refine sd_intro (by8_all _) ?_
      conv => whnf
      refine call_data rfl rfl (rtrim_c _) ?_
      conv => whnf
      refine ⟨?_, trivial⟩
      conv => whnf
      have b1 : bv s < 256 ^ s.size := bvl_lt _
      rw [hm] at b1
      rw [bv_by8, bvl_bd, hk2, Nat.mod_mod, Nat.mod_eq_of_lt (by omega)]
end Go.Nv
end
section
namespace Go.Nv
open Go.Proofs Nw
set_option maxRecDepth 100000
set_option linter.unusedVariables false
set_option linter.unusedSimpArgs false
def bi (l : List UInt8) : List D := l.map fun b => .v (.int .i64 (b.toNat : Int))
theorem bi_length (l : List UInt8) : (bi l).length = l.length := by simp [bi]
theorem bi_uni (l : List UInt8) : Uni 1 (bi l) := by
  intro x hx
  simp only [bi, List.mem_map] at hx
  obtain ⟨n, _, rfl⟩ := hx
  rfl
theorem bi_val (l : List UInt8) : ∀ x ∈ bi l, ∃ u, x = .v u := by
  unfold bi; intro x hx; simp only [List.mem_map] at hx; obtain ⟨n, _, rfl⟩ := hx; exact ⟨_, rfl⟩
theorem bi_rep (m : Nat) : bi (List.replicate m 0) = List.replicate m (.v (.int .i64 0)) := by unfold bi; simp
theorem bi_set (l : List UInt8) (i : Nat) (x : UInt8) : bi (l.set i x) = (bi l).set i (.v (.int .i64 (x.toNat : Int))) := by unfold bi; simp [List.map_set]
theorem bi_get {l : List UInt8} {i : Nat} {x : UInt8} (h : l[i]? = some x) : (bi l)[i]? = some (.v (.int .i64 (x.toNat : Int))) := by unfold bi; simp [h]
attribute [irreducible] bi
theorem and255 (z : Int) (n : Nat) (hz : z = n) (h : n < 2 ^ 62) : IntKind.i64.wrap ((BitVec.ofInt IntKind.i64.bits z &&& BitVec.ofInt IntKind.i64.bits 255).toNat : Int) = ((n % 256 : Nat) : Int) := by
  subst hz
  show IntKind.i64.wrap ((BitVec.ofInt 64 (n : Int) &&& BitVec.ofInt 64 255).toNat : Int) = _
  have e1 : (BitVec.ofInt 64 (n : Int)).toNat = n := by
    rw [BitVec.ofInt_natCast, BitVec.toNat_ofNat, Nat.mod_eq_of_lt (by omega)]
  have e2 : (BitVec.ofInt 64 255).toNat = 2 ^ 8 - 1 := by decide
  rw [BitVec.toNat_and, e1, e2, Nat.and_two_pow_sub_one_eq_mod, wr_eq .i64 _ (by simp only [wrS]; omega)]
  rfl
theorem rmulMag_c (s t : ByteArray) (hs : s.size < 1000000000000) (ht : t.size < 1000000000000) : Fun Tryz.prog 260 [.v (.string s), .v (.string t)] [.v (.string (nb (bv s * bv t)))] := by
  refine fun_of_go (fun t => false) mixed tOk Tryz.func260 rfl rfl ?_
  conv => whnf
  generalize hm : s.size + t.size = m
  have hm' : (s.size : Int) + (t.size : Int) = (m : Int) := by omega
  rw [hm']
  refine sd_d (by omega) ?_
  conv => whnf
  refine sd_d (by simp only [maxLen]; omega) ?_
  conv => whnf
  refine sd_d (by omega) ?_
  conv => whnf
  refine loop_intro (fun t => false) (fun i : Nat => ⟨fr 87 [(0, .d (.v (.string s))), (1, .d (.v (.string t))), (5, .own 0 0), (6, .d (i64 ((s.size : Int) - ((i + 1 : Nat) : Int))))], [.row 0 3 1 8 (bi (bd m (bv s % 256 ^ i * bv t)))]⟩) (fun i => i ≤ s.size) (fun i => s.size - i) 0 mixed tOk (Nat.zero_le _) ?_ ?_
  · refine weak_r ⟨⟨rfl, rfl, rfl, rfl, ?_⟩, trivial⟩ ⟨rfl, rfl, trivial, ?_, trivial⟩
    · show List.replicate _ _ = _
      rw [Nat.pow_zero, Nat.mod_one, Nat.zero_mul, bd_zero, bi_rep]; congr 1
    · conv => whnf
      omega
  · intro i hi
    conv => whnf
    refine cond_d (fun h2 => ?_) (fun h2 => ?_) <;> conv => whnf
    · refine sd_d (by omega) ?_
      conv => whnf
      generalize hT : bv s % 256 ^ i * bv t = T
      generalize hX : bv s / 256 ^ i % 256 = x
      have hx : x < 256 := by rw [← hX]; exact Nat.mod_lt _ (by omega)
      refine loop_intro (fun t => false) (fun k : Nat => ⟨fr 87 [(0, .d (.v (.string s))), (1, .d (.v (.string t))), (5, .own 0 0), (6, .d (i64 ((s.size : Int) - ((i + 1 : Nat) : Int)))), (7, .d (i64 (N8.tC T x (bv t) i k : Nat))), (8, .d (i64 ((t.size : Int) - ((k + 1 : Nat) : Int))))], [.row 0 3 1 8 (bi (bd m (N8.tR T x (bv t) i k)))]⟩) (fun k => k ≤ t.size) (fun k => t.size - k) 0 mixed tOk (Nat.zero_le _) ?_ ?_
      · refine weak_r ⟨⟨rfl, rfl, rfl, rfl, ?_⟩, trivial⟩ ⟨rfl, rfl, trivial, rfl, ?_, ?_, trivial⟩
        · rw [N8.tR_zero]
        · conv => whnf
          rw [N8.tC_zero]; rfl
        · conv => whnf
          omega
      · intro k hk
        conv => whnf
        have hcl := N8.tC_lt (T := T) (b := bv t) (i := i) (k := k) hx
        have hrl := bi_length (bd m (N8.tR T x (bv t) i k))
        rw [bd_length] at hrl
        refine cond_d (fun h3 => ?_) (fun h3 => ?_) <;> conv => whnf
        · refine sd_d (by omega) ?_
          conv => whnf
          refine sd_d (by omega) ?_
          conv => whnf
          refine sd_du (by omega) (bi_uni _) ?_
          conv => whnf
          refine rld_intro (i := m - 1 - (i + k)) (r := 0) _ _ (bi_get (bd_get (m := m) (j := i + k) (N8.tR T x (bv t) i k) (by omega))) (by omega) (by omega) (bi_uni _) rfl ?_
          conv => whnf
          rw [N8.t_dig]
          conv => whnf
          refine sd_d (by omega) ?_
          conv => whnf
          rw [bt_end s i (by omega), hX]
          conv => whnf
          refine sd_d (by omega) ?_
          conv => whnf
          refine sd_d (by omega) ?_
          conv => whnf
          rw [bt_end t k (by omega)]
          conv => whnf
          refine sd_d (by omega) ?_
          conv => whnf
          have ho : T / 256 ^ (i + k) % 256 < 256 := Nat.mod_lt _ (by omega)
          have eo : (UInt8.ofNat (T / 256 ^ (i + k) % 256)).toNat = T / 256 ^ (i + k) % 256 := by simp only [UInt8.toNat_ofNat']; omega
          have hy : bv t / 256 ^ k % 256 < 256 := Nat.mod_lt _ (by omega)
          obtain ⟨s1, s2⟩ := N8.t_step T x (bv t) i k
          have hxy : x * (bv t / 256 ^ k % 256) ≤ 255 * 255 := Nat.mul_le_mul (by omega) (by omega)
          rw [eo]
          generalize hy' : bv t / 256 ^ k % 256 = y at *
          generalize T / 256 ^ (i + k) % 256 = o at *
          have exy : (x : Int) * (y : Int) = ((x * y : Nat) : Int) := by push_cast; rfl
          rw [exy]
          generalize x * y = xy at *
          conv => whnf
          refine sd_d (by omega) ?_
          conv => whnf
          refine sd_d (by omega) ?_
          conv => whnf
          refine sd_d (by omega) ?_
          conv => whnf
          refine safe_intro (by kernel_rfl) ?_
          conv => whnf
          refine sd_d (by omega) ?_
          conv => whnf
          refine sd_d (by omega) ?_
          conv => whnf
          refine sd_du (by omega) (bi_uni _) ?_
          conv => whnf
          refine rst_one (by omega) (bi_val _) rfl ?_
          conv => whnf
          refine sd_d (by omega) ?_
          conv => whnf
          refine sd_d (by omega) ?_
          conv => whnf
          refine ⟨k + 1, by omega, by omega, weak_r ⟨⟨rfl, rfl, rfl, rfl, ?_⟩, trivial⟩ ⟨rfl, rfl, trivial, rfl, ?_, ?_, trivial⟩⟩
          · rw [s2, ← bd_set (m := m) _ (by omega) (Nat.mod_lt _ (by omega)), bi_set]
            congr 1
            · omega
            · congr 2
              rw [and255 _ (N8.tC T x (bv t) i k + (xy + o)) (by omega) (by omega)]
              simp only [UInt8.toNat_ofNat']
              omega
          · conv => whnf
            rw [sh8i, ← s1]
            omega
          · conv => whnf
            omega
        · have hk2 : k = t.size := by omega
          have hbt : bv t < 256 ^ t.size := bvl_lt _
          have hTl : T < 256 ^ (i + t.size) := by
            rw [← hT, Nat.pow_add]
            exact Nat.mul_lt_mul'' (Nat.mod_lt _ (Nat.pow_pos (by omega))) hbt
          have hend := N8.t_end (a := bv s) (b := bv t) (i := i) (n := t.size) hbt
          simp only [hT, hX] at hend
          subst hk2
          refine sd_du (by omega) (bi_uni _) ?_
          conv => whnf
          refine rld_intro (i := m - 1 - (i + t.size)) (r := 0) _ _ (bi_get (bd_get (m := m) (j := i + t.size) (N8.tR T x (bv t) i t.size) (by omega))) (by omega) (by omega) (bi_uni _) rfl ?_
          conv => whnf
          have e0 : (UInt8.ofNat (0 % 256)).toNat = 0 := rfl
          rw [N8.t_dig, Nat.div_eq_of_lt hTl, e0]
          conv => whnf
          refine sd_d (by omega) ?_
          conv => whnf
          refine sd_du (by omega) (bi_uni _) ?_
          conv => whnf
          refine rst_one (by omega) (bi_val _) rfl ?_
          conv => whnf
          refine sd_d (by omega) ?_
          conv => whnf
          refine ⟨i + 1, by omega, by omega, weak_r ⟨⟨rfl, rfl, rfl, rfl, ?_⟩, trivial⟩ ⟨rfl, rfl, trivial, ?_, trivial⟩⟩
          · rw [← hend, ← bd_set (m := m) _ (by omega) hcl, bi_set]
            congr 1
            · omega
            · congr 2
              simp only [UInt8.toNat_ofNat']
              omega
          · conv => whnf
            omega
    · have hi2 : i = s.size := by omega
      have ha : bv s < 256 ^ s.size := bvl_lt _
      rw [hi2, Nat.mod_eq_of_lt ha]
      have hbl := bi_length (bd m (bv s * bv t))
      rw [bd_length] at hbl
      conv => whnf
      refine sd_d (by simp only [maxLen]; omega) ?_
      conv => whnf
      refine loop_intro (fun t => false) (fun j : Nat => ⟨fr 87 [(5, .own 0 0), (9, .own 1 0), (10, .d (i64 (j : Int)))], [.row 0 3 1 8 (bi (bd m (bv s * bv t))), .row 0 5 1 1 (by8 ((bd m (bv s * bv t)).take j ++ List.replicate (m - j) 0))]⟩) (fun j => j ≤ m) (fun j => m - j) 0 mixed tOk (Nat.zero_le _) ?_ ?_
      · refine weak_r ⟨⟨rfl, rfl, rfl, rfl, rfl⟩, ⟨rfl, rfl, rfl, rfl, ?_⟩, trivial⟩ ⟨trivial, trivial, rfl, trivial⟩
        rw [hbl]
        show List.replicate _ _ = _
        simp only [List.take_zero, List.nil_append, by8_rep]
        congr 1
      · intro j hj
        conv => whnf
        have hl8 := by8_length ((bd m (bv s * bv t)).take j ++ List.replicate (m - j) 0)
        simp only [List.length_append, List.length_take, List.length_replicate, bd_length, Nat.min_eq_left hj] at hl8
        refine cond_d (fun h3 => ?_) (fun h3 => ?_) <;> conv => whnf
        · have hj2 : j < m := by omega
          obtain ⟨b, hb⟩ : ∃ b, (bd m (bv s * bv t))[j]? = some b := ⟨_, List.getElem?_eq_getElem (by rw [bd_length]; exact hj2)⟩
          refine sd_du (by omega) (bi_uni _) ?_
          conv => whnf
          refine rld_intro (i := j) (r := 0) _ _ (bi_get hb) (by omega) (by omega) (bi_uni _) rfl ?_
          conv => whnf
          refine sd_du (by omega) (by8_uni _) ?_
          conv => whnf
          refine rst_one (by omega) (by8_val _) rfl ?_
          conv => whnf
          refine sd_d (by omega) ?_
          conv => whnf
          refine ⟨j + 1, by omega, by omega, weak_r ⟨⟨rfl, rfl, rfl, rfl, rfl⟩, ⟨rfl, rfl, rfl, rfl, ?_⟩, trivial⟩ ⟨trivial, trivial, ?_, trivial⟩⟩
          · have e1 : List.take (j + 1) (bd m (bv s * bv t)) = List.take j (bd m (bv s * bv t)) ++ [b] := by
              rw [List.take_succ, hb]; rfl
            have e2 : m - j = (m - (j + 1)) + 1 := by omega
            have e3 : (((b.toNat : Int)) % 256) = (b.toNat : Int) := by have := b.toNat_lt; omega
            rw [e1, e2, List.replicate_succ, Int.toNat_natCast, e3, ← by8_set]
            congr 1
            rw [List.set_append_right _ _ (by rw [List.length_take, bd_length]; omega), List.length_take, bd_length, Nat.min_eq_left hj]
            simp
          · conv => whnf
            omega
        · have hj2 : j = m := by omega
          rw [hj2, Nat.sub_self, List.take_of_length_le (by rw [bd_length]; omega)]
          conv => whnf
          refine sd_intro (by8_all _) ?_
          conv => whnf
          refine call_data rfl rfl (rtrim_c _) ?_
          conv => whnf
          refine ⟨?_, trivial⟩
          conv => whnf
          have hbt : bv t < 256 ^ t.size := bvl_lt _
          have := Nat.mul_lt_mul'' ha hbt
          rw [← Nat.pow_add, hm] at this
          rw [List.replicate_zero, List.append_nil, bv_by8, bvl_bd, Nat.mod_eq_of_lt this]
end Go.Nv
end
