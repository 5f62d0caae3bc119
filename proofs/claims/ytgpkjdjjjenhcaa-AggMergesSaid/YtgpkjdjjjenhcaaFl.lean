/- Floats of 64 bits: order, difference and whole part by what their words are worth; plain arithmetic, no program in sight. -/
import Derived.Laws.FloatArith
namespace Go.Proofs.Ytgpkjdjjjenhcaa.Fl
open Go Ieee

abbrev dbl : Format := Ieee.double
theorem binade_e : dbl.binade = 2 ^ 52 := by decide
theorem weight_e : dbl.signWeight = 2 ^ 63 := by decide
theorem inf_e : dbl.infRung = 2047 * 2 ^ 52 := by decide
theorem least_e : dbl.leastPlace = -1074 := by decide

/-- The value of a rung, in units of 2^-1074. -/
def rv (r : Nat) : Nat := if r < 2 ^ 52 then r else (2 ^ 52 + r % 2 ^ 52) * 2 ^ (r / 2 ^ 52 - 1)
def sgn (x : Nat) : Bool := x / 2 ^ 63 % 2 == 1
def fin (x : Nat) : Prop := x % 2 ^ 63 < 2047 * 2 ^ 52
def sv (x : Nat) : Int := if sgn x then -(rv (x % 2 ^ 63) : Int) else (rv (x % 2 ^ 63) : Int)

theorem read_fin {x : Nat} (h : fin x) : ∃ (m : Nat) (i : Nat), dbl.read x = .number (sgn x) m ((i : Int) - 1074) ∧ m * 2 ^ i = rv (x % 2 ^ 63) ∧ m < 2 ^ 53 := by
  unfold fin at h
  unfold Format.read
  simp only [binade_e, weight_e, inf_e, least_e]
  by_cases h1 : x % 2 ^ 63 < 2 ^ 52
  · refine ⟨x % 2 ^ 63, 0, ?_, ?_, by omega⟩
    · rw [if_pos h1]; rfl
    · unfold rv; rw [if_pos h1]; simp
  · refine ⟨2 ^ 52 + x % 2 ^ 63 % 2 ^ 52, x % 2 ^ 63 / 2 ^ 52 - 1, ?_, ?_, by omega⟩
    · rw [if_neg h1, if_pos h]
      have : (-1074 : Int) + ((x % 2 ^ 63 / 2 ^ 52 - 1 : Nat) : Int) = ((x % 2 ^ 63 / 2 ^ 52 - 1 : Nat) : Int) - 1074 := by omega
      rw [this]; rfl
    · unfold rv; rw [if_neg h1]

theorem signed_eq (s : Bool) (m u : Nat) : signed s m u = if s then -((m * 2 ^ u : Nat) : Int) else ((m * 2 ^ u : Nat) : Int) := by
  unfold signed; simp only [Nat.shiftLeft_eq]

def cmpI (a b : Int) : Ordering := if a < b then .lt else if a = b then .eq else .gt
theorem compare_cmpI (a b : Int) : compare a b = cmpI a b := rfl
theorem cmpI_scale (a b : Int) (k : Nat) (hk : 0 < k) : cmpI (a * k) (b * k) = cmpI a b := by
  have hk' : (0 : Int) < k := by omega
  unfold cmpI
  by_cases h : a < b
  · rw [if_pos h, if_pos (Int.mul_lt_mul_of_pos_right h hk')]
  · by_cases h2 : a = b
    · subst h2; simp
    · have h3 : b * k < a * k := Int.mul_lt_mul_of_pos_right (by omega) hk'
      rw [if_neg h, if_neg h2, if_neg (by omega), if_neg (by omega)]

theorem scale_up (s : Bool) (m u e : Nat) : signed s m u * ((2 ^ e : Nat) : Int) = signed s m (u + e) := by
  rw [signed_eq, signed_eq]
  split
  · rw [Int.neg_mul, ← Int.natCast_mul, Nat.mul_assoc, ← Nat.pow_add]
  · rw [← Int.natCast_mul, Nat.mul_assoc, ← Nat.pow_add]

theorem sv_of {x m i : Nat} (hm : m * 2 ^ i = rv (x % 2 ^ 63)) : signed (sgn x) m i = sv x := by
  rw [signed_eq, hm]; rfl

theorem order_fin {x y : Nat} (hx : fin x) (hy : fin y) : dbl.order x y = some (cmpI (sv x) (sv y)) := by
  obtain ⟨m, i, rx, ex, _⟩ := read_fin hx
  obtain ⟨n, j, ry, ey, _⟩ := read_fin hy
  unfold Format.order
  rw [rx, ry]
  simp only [Datum.order]
  rw [compare_cmpI, ← sv_of ex, ← sv_of ey]
  rcases Nat.le_total i j with h | h
  · have hb : min ((i : Int) - 1074) ((j : Int) - 1074) = (i : Int) - 1074 := by omega
    rw [hb, ← cmpI_scale _ _ (2 ^ i) (Nat.two_pow_pos _), scale_up, scale_up]
    congr 3 <;> omega
  · have hb : min ((i : Int) - 1074) ((j : Int) - 1074) = (j : Int) - 1074 := by omega
    rw [hb, ← cmpI_scale _ _ (2 ^ j) (Nat.two_pow_pos _), scale_up, scale_up]
    congr 3 <;> omega

/-- What an infinity or a NaN is. -/
theorem read_unfin {x : Nat} (h : ¬ fin x) : dbl.read x = .infinity (sgn x) ∧ x % 2 ^ 63 = 2047 * 2 ^ 52 ∨ (∃ f, dbl.read x = .nan (sgn x) f) ∧ 2047 * 2 ^ 52 < x % 2 ^ 63 := by
  unfold fin at h
  unfold Format.read
  simp only [binade_e, weight_e, inf_e, least_e]
  rw [if_neg (by omega), if_neg h]
  by_cases e : x % 2 ^ 63 = 2047 * 2 ^ 52
  · left; rw [if_pos e]; exact ⟨rfl, e⟩
  · right; rw [if_neg e]; exact ⟨⟨_, rfl⟩, by omega⟩

theorem pow3 (p d : Nat) : 2 ^ (p + 1 + d) = 2 ^ p * 2 * 2 ^ d := by rw [Nat.pow_add, Nat.pow_succ]
/-- The value grows with the rung. -/
theorem rv_mono {a b : Nat} (h : a < b) : rv a < rv b := by
  unfold rv
  by_cases hb : b < 2 ^ 52
  · rw [if_pos hb, if_pos (by omega)]; exact h
  · rw [if_neg hb]
    by_cases ha : a < 2 ^ 52
    · rw [if_pos ha]
      have h1 : 1 ≤ 2 ^ (b / 2 ^ 52 - 1) := Nat.two_pow_pos _
      have : 2 ^ 52 * 1 ≤ (2 ^ 52 + b % 2 ^ 52) * 2 ^ (b / 2 ^ 52 - 1) := Nat.mul_le_mul (by omega) h1
      omega
    · rw [if_neg ha]
      by_cases hq : a / 2 ^ 52 = b / 2 ^ 52
      · rw [hq]
        refine Nat.mul_lt_mul_of_pos_right ?_ (Nat.two_pow_pos _)
        have := Nat.div_add_mod a (2 ^ 52); have := Nat.div_add_mod b (2 ^ 52); rw [hq] at *; omega
      · have hlt : a / 2 ^ 52 + 1 ≤ b / 2 ^ 52 := by
          have := Nat.div_le_div_right (c := 2 ^ 52) (Nat.le_of_lt h); omega
        have h1 : 1 ≤ a / 2 ^ 52 := by omega
        obtain ⟨d, hd⟩ : ∃ d, b / 2 ^ 52 - 1 = (a / 2 ^ 52 - 1) + 1 + d := ⟨b / 2 ^ 52 - 1 - (a / 2 ^ 52 - 1) - 1, by omega⟩
        rw [hd, pow3]
        have hP : 0 < 2 ^ (a / 2 ^ 52 - 1) := Nat.two_pow_pos _
        generalize 2 ^ (a / 2 ^ 52 - 1) = P at *
        have hd' : 1 ≤ 2 ^ d := Nat.two_pow_pos _
        generalize 2 ^ d = D at *
        have hm : a % 2 ^ 52 < 2 ^ 52 := Nat.mod_lt _ (by omega)
        generalize a % 2 ^ 52 = u at *
        generalize b % 2 ^ 52 = v at *
        have g1 : (2 ^ 52 + u) * P < (2 ^ 52 * 2) * P := Nat.mul_lt_mul_of_pos_right (by omega) hP
        have g2 : (2 ^ 52 * 2) * P * 1 ≤ (2 ^ 52 * 2) * P * D := Nat.mul_le_mul_left _ hd'
        have g3 : (2 ^ 52) * (P * 2 * D) ≤ (2 ^ 52 + v) * (P * 2 * D) := Nat.mul_le_mul_right _ (by omega)
        have g4 : (2 ^ 52 * 2) * P * D = (2 ^ 52) * (P * 2 * D) := by ac_rfl
        omega

theorem rv_lt_iff (a b : Nat) : rv a < rv b ↔ a < b := by
  constructor
  · intro h
    by_cases e : a < b
    · exact e
    · rcases Nat.lt_or_ge b a with g | g
      · have := rv_mono g; omega
      · have : a = b := by omega
        subst this; omega
  · exact rv_mono
theorem rv_inj {a b : Nat} (h : rv a = rv b) : a = b := by
  rcases Nat.lt_trichotomy a b with g | g | g
  · have := rv_mono g; omega
  · exact g
  · have := rv_mono g; omega
theorem rv_zero : rv 0 = 0 := by decide
theorem rv_pos {a : Nat} (h : 0 < a) : 0 < rv a := by have := rv_mono h; rw [rv_zero] at this; exact this

/-- The word of a nonzero number, rounded: its sign, and a rung above nought. -/
theorem nearest_pos (neg : Bool) (mag : Nat) (u : Nat) (hm : mag ≠ 0) : ∃ r, 0 < r ∧ r ≤ 2047 * 2 ^ 52 ∧ dbl.nearest neg mag ((u : Int) - 1074) = dbl.word neg r := by
  unfold Format.nearest
  rw [if_neg hm]
  simp only [binade_e, inf_e, least_e]
  refine ⟨_, ?_, Nat.min_le_right _ _, rfl⟩
  have hf : dbl.fractionBits = 52 := rfl
  rw [hf]
  generalize hl : max ((u : Int) - 1074 + (mag.log2 : Int) - ((52 : Nat) : Int)) (-1074) = last
  by_cases h : last ≤ (u : Int) - 1074
  · have hk : 0 < Toward.even.cut neg (mag <<< ((u : Int) - 1074 - last).toNat) (last - ((u : Int) - 1074)).toNat := by
      have h0 : (last - ((u : Int) - 1074)).toNat = 0 := by omega
      rw [h0, Nat.shiftLeft_eq]
      have hp : 0 < 2 ^ ((u : Int) - 1074 - last).toNat := Nat.two_pow_pos _
      unfold Toward.cut
      have : 0 < mag * 2 ^ ((u : Int) - 1074 - last).toNat := Nat.mul_pos (by omega) hp
      simp only [Nat.zero_le, Nat.min_eq_left, Nat.shiftLeft_zero, Nat.div_one]
      omega
    omega
  · have : 1 ≤ (last - (-1074)).toNat := by omega
    have := Nat.mul_le_mul_right (2 ^ 52) this
    omega

theorem word_sgn (neg : Bool) (r : Nat) (h : r ≤ 2047 * 2 ^ 52) : sgn (dbl.word neg r) = neg ∧ dbl.word neg r % 2 ^ 63 = r := by
  unfold Format.word sgn
  rw [weight_e]
  cases neg
  · constructor
    · simp; omega
    · simp; omega
  · constructor
    · simp; omega
    · simp; omega

/-- A word that is no NaN, against nought. -/
theorem order_zero (neg : Bool) (r : Nat) (h0 : 0 < r) (h : r ≤ 2047 * 2 ^ 52) : dbl.order (dbl.word neg r) 0 = some (if neg then .lt else .gt) ∧ dbl.order 0 (dbl.word neg r) = some (if neg then .gt else .lt) := by
  obtain ⟨hs, hr⟩ := word_sgn neg r h
  have f0 : fin 0 := by unfold fin; decide
  have s0 : sv 0 = 0 := by decide
  by_cases hf : fin (dbl.word neg r)
  · rw [order_fin hf f0, order_fin f0 hf, s0]
    have hp := rv_pos h0
    unfold sv; rw [hs, hr]
    unfold cmpI
    cases neg
    · simp only [Bool.false_eq_true, if_false]
      rw [if_neg (by omega), if_neg (by omega), if_pos (by omega)]; exact ⟨rfl, rfl⟩
    · simp only [if_true]
      rw [if_pos (by omega), if_neg (by omega), if_neg (by omega)]; exact ⟨rfl, rfl⟩
  · rcases read_unfin hf with ⟨h1, _⟩ | ⟨_, h2⟩
    · obtain ⟨m, i, r0, _, _⟩ := read_fin f0
      unfold Format.order
      rw [h1, r0, hs]
      cases neg <;> exact ⟨rfl, rfl⟩
    · rw [hr] at h2; omega

/-- x - y against nought is x against y. -/
theorem sub_order {x y : Nat} (hx : fin x) (hy : fin y) : ∃ r, dbl.sub x y = some r ∧ dbl.order r 0 = some (cmpI (sv x) (sv y)) ∧ dbl.order 0 r = some (cmpI (sv y) (sv x)) ∧ dbl.order r r = some .eq := by
  obtain ⟨m, i, rx, ex, _⟩ := read_fin hx
  obtain ⟨n, j, ry, ey, _⟩ := read_fin hy
  obtain ⟨b, hb, hbi, hbj⟩ : ∃ b : Nat, min ((i : Int) - 1074) ((j : Int) - 1074) = (b : Int) - 1074 ∧ b ≤ i ∧ b ≤ j := ⟨min i j, by omega, by omega, by omega⟩
  have hi : ((i : Int) - 1074 - ((b : Int) - 1074)).toNat = i - b := by omega
  have hj : ((j : Int) - 1074 - ((b : Int) - 1074)).toNat = j - b := by omega
  have hop : ∀ u, signed (!(sgn y)) n u = -signed (sgn y) n u := by
    intro u; rw [signed_eq, signed_eq]; cases sgn y <;> simp
  generalize hT : signed (sgn x) m (i - b) + signed (!(sgn y)) n (j - b) = T
  have hTs : T * ((2 ^ b : Nat) : Int) = sv x - sv y := by
    rw [← hT, hop, Int.add_mul, Int.neg_mul, scale_up, scale_up, Nat.sub_add_cancel hbi, Nat.sub_add_cancel hbj, sv_of ex, sv_of ey]; omega
  have hP : (0 : Int) < ((2 ^ b : Nat) : Int) := by have := Nat.two_pow_pos b; omega
  have hsum : dbl.sub x y = some (dbl.nearest (if T = 0 then (sgn x && !(sgn y)) else decide (T < 0)) T.natAbs ((b : Int) - 1074)) := by
    unfold Format.sub
    rw [rx, ry]
    simp only [Datum.opposite, Datum.sum, hb, hi, hj, hT, Option.map_some, Format.write]
  by_cases h0 : T = 0
  · subst h0
    have he : sv x = sv y := by omega
    rw [hsum]
    refine ⟨_, rfl, ?_⟩
    simp only [if_true, Int.natAbs_zero]
    have hz : ∀ ng : Bool, ∃ z, dbl.nearest ng 0 ((b : Int) - 1074) = z ∧ fin z ∧ sv z = 0 := by
      intro ng
      refine ⟨dbl.word ng 0, by unfold Format.nearest; rw [if_pos rfl], ?_, ?_⟩
      · unfold fin; rw [(word_sgn ng 0 (by omega)).2]; omega
      · unfold sv; rw [(word_sgn ng 0 (by omega)).1, (word_sgn ng 0 (by omega)).2, rv_zero]; cases ng <;> rfl
    obtain ⟨z, e, fz, sz⟩ := hz (sgn x && !(sgn y))
    rw [e]
    have f0 : fin 0 := by unfold fin; decide
    have s0 : sv 0 = 0 := by decide
    rw [order_fin fz f0, order_fin f0 fz, order_fin fz fz, sz, s0, he]
    unfold cmpI
    simp
  · rw [hsum, if_neg h0]
    obtain ⟨r, r0, r1, hr⟩ := nearest_pos (decide (T < 0)) T.natAbs b (by omega)
    refine ⟨_, rfl, ?_⟩
    rw [hr, (order_zero _ r r0 r1).1, (order_zero _ r r0 r1).2]
    have hself : dbl.order (dbl.word (decide (T < 0)) r) (dbl.word (decide (T < 0)) r) = some .eq := by
      by_cases hf : fin (dbl.word (decide (T < 0)) r)
      · rw [order_fin hf hf]; unfold cmpI; simp
      · rcases read_unfin hf with ⟨h1, _⟩ | ⟨_, h2⟩
        · unfold Format.order
          rw [h1]; simp [Datum.order]
        · rw [(word_sgn _ r r1).2] at h2; omega
    have hlt : T < 0 → sv x < sv y := fun hn => by
      have h1 : T * ((2 ^ b : Nat) : Int) < 0 := Int.mul_neg_of_neg_of_pos hn hP
      rw [hTs] at h1; omega
    have hgt : 0 < T → sv y < sv x := fun hn => by
      have h1 : 0 < T * ((2 ^ b : Nat) : Int) := Int.mul_pos hn hP
      rw [hTs] at h1; omega
    clear hTs hsum hr
    refine ⟨?_, ?_, hself⟩
    · by_cases hn : T < 0
      · have := hlt hn
        rw [decide_eq_true hn, if_pos rfl]; unfold cmpI
        rw [if_pos this]
      · have := hgt (by omega)
        rw [decide_eq_false hn, if_neg (by decide)]; unfold cmpI
        rw [if_neg (by omega), if_neg (by omega)]
    · by_cases hn : T < 0
      · have := hlt hn
        rw [decide_eq_true hn, if_pos rfl]; unfold cmpI
        rw [if_neg (by omega), if_neg (by omega)]
      · have := hgt (by omega)
        rw [decide_eq_false hn, if_neg (by decide)]; unfold cmpI
        rw [if_pos this]

theorem rv_norm (k M : Nat) (h : 2 ^ 52 ≤ M) (h' : M < 2 ^ 53) : rv (k * 2 ^ 52 + M) = M * 2 ^ k := by
  unfold rv
  have e1 : (k * 2 ^ 52 + M) / 2 ^ 52 - 1 = k := by omega
  have e2 : 2 ^ 52 + (k * 2 ^ 52 + M) % 2 ^ 52 = M := by omega
  rw [if_neg (by omega), e1, e2]

theorem cut_zero (neg : Bool) (n : Nat) : Toward.even.cut neg n 0 = n := by
  unfold Toward.cut
  have e1 : (1 <<< min 0 (n.log2 + 2) : Nat) = 1 := by rw [Nat.zero_min]; rfl
  simp only [e1, Nat.mod_one, Nat.div_one]
  rfl
theorem cut_exact (neg : Bool) (M d : Nat) (h : d ≤ (M * 2 ^ d).log2 + 2) : Toward.even.cut neg (M * 2 ^ d) d = M := by
  unfold Toward.cut
  rw [Nat.min_eq_left h, Nat.shiftLeft_eq, Nat.one_mul]
  have hp2 : 0 < 2 ^ d := Nat.two_pow_pos _
  generalize 2 ^ d = G at *
  have e5 : decide (G < 2 * 0) = false := by simp
  have e6 : (G == 2 * 0) = false := by rw [beq_eq_false_iff_ne]; omega
  simp only [Nat.mul_mod_left, Nat.mul_div_cancel _ hp2, e5, e6, Bool.false_and, Bool.or_self, Bool.toNat_false, Nat.add_zero]
theorem log2_shift {mag L i : Nat} (h0 : mag ≠ 0) (hL : mag.log2 = L) : (mag * 2 ^ i).log2 = L + i := by
  have hp : 0 < 2 ^ i := Nat.two_pow_pos _
  have hne : mag * 2 ^ i ≠ 0 := Nat.mul_ne_zero h0 (by omega)
  have hlo : 2 ^ L ≤ mag := by rw [← hL]; exact Nat.log2_self_le h0
  have hhi : mag < 2 ^ (L + 1) := by rw [← hL]; exact Nat.lt_log2_self
  refine (Nat.log2_eq_iff hne).2 ⟨?_, ?_⟩
  · rw [Nat.pow_add]; exact Nat.mul_le_mul_right _ hlo
  · have : L + i + 1 = (L + 1) + i := by omega
    rw [this, Nat.pow_add]; exact Nat.mul_lt_mul_of_pos_right hhi hp
theorem norm_bounds {mag L : Nat} (h0 : mag ≠ 0) (hL : mag.log2 = L) (hL52 : L ≤ 52) : 2 ^ 52 ≤ mag * 2 ^ (52 - L) ∧ mag * 2 ^ (52 - L) < 2 ^ 53 := by
  have hlo : 2 ^ L ≤ mag := by rw [← hL]; exact Nat.log2_self_le h0
  have hhi : mag < 2 ^ (L + 1) := by rw [← hL]; exact Nat.lt_log2_self
  have e1 : L + (52 - L) = 52 := by omega
  have e2 : L + 1 + (52 - L) = 53 := by omega
  constructor
  · have : 2 ^ L * 2 ^ (52 - L) = 2 ^ 52 := by rw [← Nat.pow_add, e1]
    rw [← this]; exact Nat.mul_le_mul_right _ hlo
  · have : 2 ^ (L + 1) * 2 ^ (52 - L) = 2 ^ 53 := by rw [← Nat.pow_add, e2]
    rw [← this]; exact Nat.mul_lt_mul_of_pos_right hhi (Nat.two_pow_pos _)
theorem kept_eq (neg : Bool) {mag L i : Nat} (h0 : mag ≠ 0) (hL : mag.log2 = L) (hL52 : L ≤ 52) :
    Toward.even.cut neg ((mag * 2 ^ i) <<< ((0 : Int) - (((L + i : Nat) : Int) - 52)).toNat) ((((L + i : Nat) : Int) - 52) - 0).toNat = mag * 2 ^ (52 - L) := by
  by_cases hc : L + i ≤ 52
  · have e1 : ((((L + i : Nat) : Int) - 52) - 0).toNat = 0 := by omega
    have e2 : ((0 : Int) - (((L + i : Nat) : Int) - 52)).toNat = 52 - L - i := by omega
    have e3 : i + (52 - L - i) = 52 - L := by omega
    rw [e1, e2, cut_zero, Nat.shiftLeft_eq, Nat.mul_assoc, ← Nat.pow_add, e3]
  · have e1 : ((((L + i : Nat) : Int) - 52) - 0).toNat = L + i - 52 := by omega
    have e2 : ((0 : Int) - (((L + i : Nat) : Int) - 52)).toNat = 0 := by omega
    have e3 : 52 - L + (L + i - 52) = i := by omega
    have e4 : mag * 2 ^ i = mag * 2 ^ (52 - L) * 2 ^ (L + i - 52) := by rw [Nat.mul_assoc, ← Nat.pow_add, e3]
    have hl := log2_shift (i := i) h0 hL
    rw [e1, e2, Nat.shiftLeft_zero]
    rw [e4] at hl ⊢
    exact cut_exact neg _ _ (by rw [hl]; omega)
theorem rung_min {a M : Nat} (ha : a ≤ 1200) (hM : M < 2 ^ 53) : min (a * 2 ^ 52 + M) (2047 * 2 ^ 52) = a * 2 ^ 52 + M := by omega
theorem nearest_whole (neg : Bool) {mag L i : Nat} (h0 : mag ≠ 0) (hL : mag.log2 = L) (hL52 : L ≤ 52) (hi : i ≤ 64) :
    dbl.nearest neg (mag * 2 ^ i) 0 = dbl.word neg ((L + i + 1022) * 2 ^ 52 + mag * 2 ^ (52 - L)) := by
  have hne : mag * 2 ^ i ≠ 0 := Nat.mul_ne_zero h0 (Nat.ne_of_gt (Nat.two_pow_pos _))
  unfold Format.nearest
  rw [if_neg hne, log2_shift h0 hL]
  simp only [binade_e, inf_e, least_e]
  have hf : dbl.fractionBits = 52 := rfl
  rw [hf]
  have hlast : max ((0 : Int) + ((L + i : Nat) : Int) - ((52 : Nat) : Int)) (-1074) = ((L + i : Nat) : Int) - 52 := by omega
  rw [hlast, kept_eq neg h0 hL hL52]
  have e : (((L + i : Nat) : Int) - 52 - -1074).toNat = L + i + 1022 := by omega
  rw [e, rung_min (by omega) (norm_bounds h0 hL hL52).2]
def U : Nat := 1074
theorem addU (L i : Nat) (h : L ≤ 52) : 52 - L + (L + i + 1022) = i + U := by unfold U; omega
/-- The word of a whole number that is mag * 2^i, mag of 53 digits at most: exact. -/
theorem nearest_exact (neg : Bool) (mag i : Nat) (hm : mag < 2 ^ 53) (hi : i ≤ 64) : fin (dbl.nearest neg (mag * 2 ^ i) 0) ∧ rv (dbl.nearest neg (mag * 2 ^ i) 0 % 2 ^ 63) = mag * 2 ^ i * 2 ^ U ∧ (mag ≠ 0 → sgn (dbl.nearest neg (mag * 2 ^ i) 0) = neg) := by
  by_cases h0 : mag = 0
  · subst h0
    have e : dbl.nearest neg (0 * 2 ^ i) 0 = dbl.word neg 0 := by unfold Format.nearest; rw [if_pos (Nat.zero_mul _)]
    rw [e]
    obtain ⟨_, h2⟩ := word_sgn neg 0 (by omega)
    refine ⟨by unfold fin; rw [h2]; omega, by rw [h2, rv_zero, Nat.zero_mul, Nat.zero_mul], fun h => absurd rfl h⟩
  · obtain ⟨L, hL⟩ : ∃ L, mag.log2 = L := ⟨_, rfl⟩
    have hL52 : L ≤ 52 := by
      rw [← hL]; have := (Nat.log2_lt h0 (k := 53)).2 hm; omega
    have hb := norm_bounds h0 hL hL52
    have hval : mag * 2 ^ (52 - L) * 2 ^ (L + i + 1022) = mag * 2 ^ i * 2 ^ U := by
      rw [Nat.mul_assoc, Nat.mul_assoc, ← Nat.pow_add, ← Nat.pow_add, addU L i hL52]
    rw [nearest_whole neg h0 hL hL52 hi, ← hval]
    have hk : L + i + 1022 ≤ 1200 := by omega
    clear hval hL
    generalize L + i + 1022 = k at *
    generalize mag * 2 ^ (52 - L) = M at *
    obtain ⟨hb1, hb2⟩ := hb
    obtain ⟨h1, h2⟩ := word_sgn neg (k * 2 ^ 52 + M) (by omega)
    refine ⟨by unfold fin; rw [h2]; omega, ?_, fun _ => h1⟩
    rw [h2]
    exact rv_norm k M hb1 hb2
theorem two_U_pos : 0 < 2 ^ U := Nat.two_pow_pos _
theorem cutz (s : Bool) (n d : Nat) : Toward.zero.cut s n d = n / 2 ^ d := by
  unfold Toward.cut
  simp only [Bool.toNat_false, Nat.add_zero, Nat.shiftLeft_eq, Nat.one_mul]
  by_cases h : d ≤ n.log2 + 2
  · rw [Nat.min_eq_left h]
  · rw [Nat.min_eq_right (by omega)]
    have h1 : n < 2 ^ (n.log2 + 2) := Nat.lt_of_lt_of_le Nat.lt_log2_self (Nat.pow_le_pow_right (by omega) (by omega))
    have h2 : 2 ^ (n.log2 + 2) ≤ 2 ^ d := Nat.pow_le_pow_right (by omega) (by omega)
    rw [Nat.div_eq_of_lt h1, Nat.div_eq_of_lt (Nat.lt_of_lt_of_le h1 h2)]
/-- The whole part of a finite float. -/
theorem integral_fin {y : Nat} (h : fin y) : (dbl.read y).integral .zero = .number (sgn y) (rv (y % 2 ^ 63) / 2 ^ U) 0 := by
  obtain ⟨m, i, ry, ey, _⟩ := read_fin h
  rw [ry, ← ey]
  simp only [Datum.integral, cutz, Nat.shiftLeft_eq]
  congr 1
  rcases Nat.lt_or_ge i 1074 with g | g
  · have e1 : ((i : Int) - 1074).toNat = 0 := by omega
    have e2 : (-((i : Int) - 1074)).toNat = 1074 - i := by omega
    have e3 : U = (1074 - i) + i := by unfold U; omega
    rw [e1, e2, e3, Nat.pow_zero, Nat.mul_one, Nat.pow_add, Nat.mul_div_mul_right _ _ (Nat.two_pow_pos _)]
  · have e1 : ((i : Int) - 1074).toNat = i - 1074 := by omega
    have e2 : (-((i : Int) - 1074)).toNat = 0 := by omega
    have e3 : i = (i - 1074) + U := by unfold U; omega
    rw [e1, e2, Nat.pow_zero, Nat.div_one]
    conv => rhs; rw [e3, Nat.pow_add, ← Nat.mul_assoc, Nat.mul_div_cancel _ two_U_pos]
/-- The whole part has 53 digits. -/
theorem whole_digits {y : Nat} (h : fin y) (hb : rv (y % 2 ^ 63) < 2 ^ 64 * 2 ^ U) : ∃ M j, M < 2 ^ 53 ∧ j ≤ 64 ∧ rv (y % 2 ^ 63) / 2 ^ U = M * 2 ^ j := by
  obtain ⟨m, i, _, ey, hm⟩ := read_fin h
  rw [← ey] at hb ⊢
  by_cases m0 : m = 0
  · subst m0; exact ⟨0, 0, by omega, by omega, by rw [Nat.zero_mul, Nat.zero_div]⟩
  rcases Nat.lt_or_ge i 1074 with g | g
  · have e3 : U = (1074 - i) + i := by unfold U; omega
    refine ⟨m / 2 ^ (1074 - i), 0, Nat.lt_of_le_of_lt (Nat.div_le_self _ _) hm, by omega, ?_⟩
    rw [e3, Nat.pow_zero, Nat.mul_one, Nat.pow_add, Nat.mul_div_mul_right _ _ (Nat.two_pow_pos _)]
  · have e3 : i = (i - 1074) + U := by unfold U; omega
    have e4 : m * 2 ^ i = m * 2 ^ (i - 1074) * 2 ^ U := by conv => lhs; rw [e3, Nat.pow_add, ← Nat.mul_assoc]
    rw [e4] at hb ⊢
    have hb2 := Nat.lt_of_mul_lt_mul_right hb
    refine ⟨m, i - 1074, hm, ?_, Nat.mul_div_cancel _ two_U_pos⟩
    rcases Nat.lt_or_ge (i - 1074) 64 with q | q
    · omega
    · have : 2 ^ 64 ≤ m * 2 ^ (i - 1074) := by
        have h1 : 1 * 2 ^ 64 ≤ m * 2 ^ (i - 1074) := Nat.mul_le_mul (by omega) (Nat.pow_le_pow_right (by omega) q)
        rwa [Nat.one_mul] at h1
      omega
def whole (y : Nat) : Nat := rv (y % 2 ^ 63) / 2 ^ U
def wholeI (y : Nat) : Int := if sgn y then -(whole y : Int) else whole y
/-- The float that Trunc gives, and the float of the whole part as an integer: what they are worth. -/
theorem trunc_worth {y : Nat} (h : fin y) (hb : rv (y % 2 ^ 63) < 2 ^ 64 * 2 ^ U) (neg : Bool) :
    fin (dbl.nearest neg (whole y) 0) ∧ whole (dbl.nearest neg (whole y) 0) = whole y ∧ rv (dbl.nearest neg (whole y) 0 % 2 ^ 63) = whole y * 2 ^ U ∧ (whole y ≠ 0 → sgn (dbl.nearest neg (whole y) 0) = neg) := by
  obtain ⟨M, j, hM, hj, e⟩ := whole_digits h hb
  obtain ⟨h1, h2, h3⟩ := nearest_exact neg M j hM hj
  have e' : whole y = M * 2 ^ j := e
  rw [e']
  refine ⟨h1, ?_, h2, fun hne => h3 (fun h0 => hne (by rw [h0, Nat.zero_mul]))⟩
  unfold whole
  rw [h2, Nat.mul_div_cancel _ two_U_pos]
theorem sv_trunc {y : Nat} (h : fin y) (hb : rv (y % 2 ^ 63) < 2 ^ 64 * 2 ^ U) (neg : Bool) (hn : whole y ≠ 0 → neg = sgn y) :
    sv (dbl.nearest neg (whole y) 0) = wholeI y * ((2 ^ U : Nat) : Int) ∧ wholeI (dbl.nearest neg (whole y) 0) = wholeI y := by
  obtain ⟨_, h2, h3, h4⟩ := trunc_worth h hb neg
  unfold sv wholeI
  rw [h2, h3]
  by_cases h0 : whole y = 0
  · rw [h0]; simp
  · rw [h4 h0, hn h0]
    cases sgn y
    · simp
    · simp only [if_true]; rw [Int.neg_mul, Int.natCast_mul]; exact ⟨rfl, trivial⟩
theorem c63_word : 4890909195324358656 % 2 ^ 63 = 1085 * 2 ^ 52 + 2 ^ 52 ∧ 14114281232179134464 % 2 ^ 63 = 1085 * 2 ^ 52 + 2 ^ 52 ∧ sgn 4890909195324358656 = false ∧ sgn 14114281232179134464 = true := by decide
theorem rv_gen (k : Nat) (hk : 52 + k = 63 + U) : rv (k * 2 ^ 52 + 2 ^ 52) = 2 ^ 63 * 2 ^ U := by
  rw [rv_norm k (2 ^ 52) (Nat.le_refl _) (by decide), ← Nat.pow_add, ← Nat.pow_add, hk]
theorem rv_c63 : rv (1085 * 2 ^ 52 + 2 ^ 52) = 2 ^ 63 * 2 ^ U := rv_gen 1085 rfl
theorem fin_c63 : fin 4890909195324358656 ∧ fin 14114281232179134464 := by unfold fin; decide
theorem sv_c63 : sv 4890909195324358656 = ((2 ^ 63 * 2 ^ U : Nat) : Int) ∧ sv 14114281232179134464 = -((2 ^ 63 * 2 ^ U : Nat) : Int) := by
  obtain ⟨h1, _, h3, h4⟩ := c63_word
  unfold sv
  rw [h3, h4, h1, rv_c63]
  exact ⟨rfl, rfl⟩
/-- What lies in the range of a 64-bit integer. -/
theorem range_whole {y : Nat} (h : fin y) (h1 : dbl.order y 4890909195324358656 = some .lt) (h2 : dbl.order y 14114281232179134464 ≠ some .lt) :
    rv (y % 2 ^ 63) < 2 ^ 64 * 2 ^ U ∧ -(2 ^ 63) ≤ wholeI y ∧ wholeI y < 2 ^ 63 := by
  rw [order_fin h fin_c63.1, sv_c63.1] at h1
  rw [order_fin h fin_c63.2, sv_c63.2] at h2
  have hp := two_U_pos
  have g1 : sv y < ((2 ^ 63 * 2 ^ U : Nat) : Int) := by
    unfold cmpI at h1; split at h1
    · assumption
    · split at h1 <;> cases h1
  have g2 : -((2 ^ 63 * 2 ^ U : Nat) : Int) ≤ sv y := by
    unfold cmpI at h2; split at h2
    · exact absurd rfl h2
    · omega
  have k : ∀ r : Nat, r < 2 ^ 63 * 2 ^ U → r / 2 ^ U < 2 ^ 63 := fun r hr => (Nat.div_lt_iff_lt_mul hp).2 hr
  have k2 : ∀ r : Nat, r ≤ 2 ^ 63 * 2 ^ U → r / 2 ^ U ≤ 2 ^ 63 := fun r hr => by
    have := Nat.div_le_div_right (c := 2 ^ U) hr
    rwa [Nat.mul_div_cancel _ hp] at this
  have k3 : 2 ^ 63 * 2 ^ U < 2 ^ 64 * 2 ^ U := Nat.mul_lt_mul_of_pos_right (by omega) hp
  have hs : (0 : Int) < ((2 ^ 63 * 2 ^ U : Nat) : Int) := by have := Nat.mul_pos (show 0 < 2 ^ 63 by omega) hp; omega
  unfold wholeI whole sv at *
  generalize 2 ^ 63 * 2 ^ U = B at *
  generalize 2 ^ 64 * 2 ^ U = B2 at *
  generalize rv (y % 2 ^ 63) = r at *
  generalize sgn y = b at *
  cases b
  · simp only [Bool.false_eq_true, if_false] at *
    have := k r (by omega)
    generalize r / 2 ^ U = q at *
    omega
  · simp only [if_true] at *
    have := k2 r (by omega)
    generalize r / 2 ^ U = q at *
    omega
/-- An integer of a float, cut towards zero. -/
theorem toInt_fin {y : Nat} (h : fin y) : (dbl.read y).toInt .zero = some (wholeI y) := by
  unfold Datum.toInt
  rw [integral_fin h]
  simp only [signed_eq, Nat.pow_zero, Nat.mul_one]
  rfl
/-- The float of the whole part, as an integer. -/
theorem ofInt_eq (y : Nat) : dbl.nearest (decide (wholeI y < 0)) (wholeI y).natAbs 0 = dbl.nearest (decide (wholeI y < 0)) (whole y) 0 := by
  congr 1
  unfold wholeI
  split <;> omega
theorem ofInt_sgn (y : Nat) (hne : whole y ≠ 0) : decide (wholeI y < 0) = sgn y := by
  unfold wholeI
  cases sgn y
  · simp
  · simp only [if_true]; exact decide_eq_true (by omega)
/-- THE LEMMA FOR Compare: f minus its whole part against nought is f against its whole part. -/
theorem frac_order {f : Nat} (h : fin f) (hb : rv (f % 2 ^ 63) < 2 ^ 64 * 2 ^ U) : ∃ t g d, t = dbl.nearest (sgn f) (whole f) 0 ∧ g = dbl.nearest (decide (wholeI f < 0)) (wholeI f).natAbs 0 ∧
    fin t ∧ fin g ∧ wholeI t = wholeI f ∧ dbl.sub f g = some d ∧ dbl.order f t = some (cmpI (sv f) (sv t)) ∧ dbl.order 0 d = some (cmpI (sv t) (sv f)) ∧ dbl.order d d = some .eq := by
  have ht := trunc_worth h hb (sgn f)
  have hg := trunc_worth h hb (decide (wholeI f < 0))
  have st := sv_trunc h hb (sgn f) (fun _ => rfl)
  have sg := sv_trunc h hb (decide (wholeI f < 0)) (ofInt_sgn f)
  rw [← ofInt_eq] at sg hg
  obtain ⟨d, hd, _, h0, hs⟩ := sub_order h hg.1
  refine ⟨_, _, d, rfl, rfl, ht.1, hg.1, st.2, hd, order_fin h ht.1, ?_, hs⟩
  rw [h0, sg.1, st.1]
end Go.Proofs.Ytgpkjdjjjenhcaa.Fl
