/-
  Parts of the circle as floats: n / 4294967296 for whole numbers n from nought to 4294967296, exactly.
-/
import Derived.Laws.FloatArith
namespace Go.Proofs.Ytohfboolicheeaa
open Go
set_option linter.unusedVariables false
set_option linter.unusedSimpArgs false
set_option maxRecDepth 100000
namespace Rg

/-- The fraction's digits. -/
@[irreducible] def tF : Nat := 52
theorem tF_eq : tF = 52 := by unfold tF; rfl
/-- The word of M * 2 ^ E. -/
def wrd (M : Nat) (E : Int) : Nat := (E + 1074).toNat * 2 ^ tF + M
/-- The word of n / 4294967296. -/
def shB (n : Nat) : Nat := if n = 0 then 0 else wrd (n * 2 ^ (tF - n.log2)) ((n.log2 : Int) - 84)

theorem dbl_least : Ieee.double.leastPlace = -1074 := by decide +kernel
theorem dbl_bin : Ieee.double.binade = 2 ^ tF := by rw [tF_eq]; rfl
theorem dbl_inf : Ieee.double.infRung = 2047 * 2 ^ tF := by rw [tF_eq]; rfl
theorem dbl_sgn : Ieee.double.signWeight = 2048 * 2 ^ tF := by rw [tF_eq]; decide +kernel
theorem dbl_frac : Ieee.double.fractionBits = tF := by rw [tF_eq]; rfl
theorem dbl_word (n : Nat) : Ieee.double.word false n = n := rfl

theorem log2_of {m L : Nat} (h1 : 2 ^ L ≤ m) (h2 : m < 2 ^ (L + 1)) : m.log2 = L := by
  have h0 : m ≠ 0 := by have := Nat.two_pow_pos L; omega
  have a : L ≤ m.log2 := (Nat.le_log2 h0).2 h1
  have b : m.log2 < L + 1 := (Nat.log2_lt h0).2 h2
  omega
theorem log2_mul {M t k : Nat} (h1 : 2 ^ t ≤ M) (h2 : M < 2 ^ (t + 1)) : (M * 2 ^ k).log2 = t + k :=
  log2_of (by rw [Nat.pow_add]; exact Nat.mul_le_mul_right _ h1) (by rw [show t + k + 1 = t + 1 + k by omega, Nat.pow_add 2 (t + 1) k]; exact Nat.mul_lt_mul_of_pos_right h2 (Nat.two_pow_pos k))

theorem cut_exact (neg : Bool) (t M k : Nat) (hM : 2 ^ t ≤ M) (hM2 : M < 2 ^ (t + 1)) : Ieee.Toward.even.cut neg (M * 2 ^ k) k = M := by
  have hl : (M * 2 ^ k).log2 = t + k := log2_mul hM hM2
  have hp := Nat.two_pow_pos k
  obtain ⟨g, hg⟩ : ∃ g, 2 ^ k = g := ⟨_, rfl⟩
  rw [hg] at hp
  have hm : min k ((M * 2 ^ k).log2 + 2) = k := by rw [hl]; omega
  unfold Ieee.Toward.cut
  rw [hm]
  simp only [Nat.one_shiftLeft, hg]
  rw [Nat.mul_div_cancel _ hp, Nat.mul_mod_left, Nat.mul_zero]
  have e1 : decide (g < 0) = false := by simp
  have e2 : ((g == 0 : Bool)) = false := by rw [beq_eq_false_iff_ne]; omega
  rw [e1, e2]
  rfl

theorem wrd_lt {M : Nat} {E : Int} (h2 : M < 2 ^ (tF + 1)) (hE2 : E ≤ 900) : wrd M E < 2047 * 2 ^ tF := by
  unfold wrd
  have h3 : (E + 1074).toNat * 2 ^ tF ≤ 1974 * 2 ^ tF := Nat.mul_le_mul_right _ (by omega)
  rw [Nat.pow_succ] at h2
  omega
theorem near_end {M : Nat} {E : Int} (h2 : M < 2 ^ (tF + 1)) (hE2 : E ≤ 900) : Ieee.double.word false (min ((E - Ieee.double.leastPlace).toNat * Ieee.double.binade + M) Ieee.double.infRung) = wrd M E := by
  have := wrd_lt (E := E) h2 hE2
  rw [dbl_word, dbl_least, dbl_bin, dbl_inf, show E - -1074 = E + 1074 by omega]
  unfold wrd at this ⊢
  exact Nat.min_eq_left (by omega)
theorem near_down {M k : Nat} {E : Int} (h1 : 2 ^ tF ≤ M) (h2 : M < 2 ^ (tF + 1)) (hE : -1074 ≤ E) (hE2 : E ≤ 900) : Ieee.double.nearest false (M * 2 ^ k) (E - k) = wrd M E := by
  have hp := Nat.two_pow_pos k
  have hl : (M * 2 ^ k).log2 = tF + k := log2_mul h1 h2
  have h0 : M * 2 ^ k ≠ 0 := by
    have : 0 < M * 2 ^ k := Nat.mul_pos (by have := Nat.two_pow_pos tF; omega) hp
    omega
  unfold Ieee.Format.nearest
  rw [if_neg h0, hl]
  have hm : max (E - (k : Int) + ((tF + k : Nat) : Int) - ((Ieee.double.fractionBits : Nat) : Int)) Ieee.double.leastPlace = E := by rw [dbl_frac, dbl_least]; omega
  have hz : (E - (k : Int) - E).toNat = 0 := by omega
  have hk : (E - (E - (k : Int))).toNat = k := by omega
  rw [hm]
  simp only [hz, hk, Nat.shiftLeft_zero]
  rw [cut_exact false tF M k h1 h2]
  exact near_end h2 hE2

theorem near_up {m M k : Nat} {E : Int} (hm : m * 2 ^ k = M) (hk : k ≤ tF) (h1 : 2 ^ tF ≤ M) (h2 : M < 2 ^ (tF + 1)) (hE : -1074 ≤ E) (hE2 : E ≤ 900) : Ieee.double.nearest false m (E + k) = wrd M E := by
  have hp := Nat.two_pow_pos k
  have hl : m.log2 = tF - k := by
    refine log2_of ?_ ?_
    · refine Nat.le_of_mul_le_mul_right (?_ : 2 ^ (tF - k) * 2 ^ k ≤ m * 2 ^ k) hp
      rw [← Nat.pow_add, show tF - k + k = tF by omega, hm]; exact h1
    · refine Nat.lt_of_mul_lt_mul_right (a := 2 ^ k) ?_
      rw [← Nat.pow_add, show tF - k + 1 + k = tF + 1 by omega, hm]; exact h2
  have h0 : m ≠ 0 := by
    rintro rfl
    rw [Nat.zero_mul] at hm
    have := Nat.two_pow_pos tF
    omega
  unfold Ieee.Format.nearest
  rw [if_neg h0, hl]
  have hmx : max (E + (k : Int) + ((tF - k : Nat) : Int) - ((Ieee.double.fractionBits : Nat) : Int)) Ieee.double.leastPlace = E := by rw [dbl_frac, dbl_least]; omega
  have hz : (E + (k : Int) - E).toNat = k := by omega
  have hk0 : (E - (E + (k : Int))).toNat = 0 := by omega
  have hc := cut_exact false tF M 0 h1 h2
  rw [Nat.pow_zero, Nat.mul_one] at hc
  rw [hmx]
  simp only [hz, hk0, Nat.shiftLeft_eq, hm]
  rw [hc]
  exact near_end h2 hE2

theorem read_wrd {M : Nat} {E : Int} (h1 : 2 ^ tF ≤ M) (h2 : M < 2 ^ (tF + 1)) (hE : -1074 ≤ E) (hE2 : E ≤ 900) : Ieee.double.read (wrd M E) = .number false M E := by
  have hlt := wrd_lt (E := E) h2 hE2
  obtain ⟨e, he⟩ : ∃ e : Nat, (E + 1074).toNat = e := ⟨_, rfl⟩
  have hee : E = (e : Int) - 1074 := by omega
  have hb := Nat.two_pow_pos tF
  rw [Nat.pow_succ] at h2
  unfold Ieee.Format.read
  rw [dbl_sgn, dbl_bin, dbl_inf, dbl_least]
  unfold wrd at hlt ⊢
  rw [he] at hlt ⊢
  obtain ⟨bn, hbn⟩ : ∃ b, 2 ^ tF = b := ⟨_, rfl⟩
  rw [hbn] at h1 h2 hb hlt ⊢
  obtain ⟨r, rfl⟩ : ∃ r, M = bn + r := ⟨M - bn, by omega⟩
  have hr : r < bn := by omega
  have e0 : e * bn + (bn + r) = bn * (e + 1) + r := by rw [Nat.mul_add, Nat.mul_one, Nat.mul_comm]; omega
  rw [e0] at hlt ⊢
  have hge : bn ≤ bn * (e + 1) := Nat.le_mul_of_pos_right _ (by omega)
  have p1 : (bn * (e + 1) + r) / (2048 * bn) = 0 := Nat.div_eq_of_lt (by omega)
  have p2 : (bn * (e + 1) + r) % (2048 * bn) = bn * (e + 1) + r := Nat.mod_eq_of_lt (by omega)
  have p3 : (bn * (e + 1) + r) / bn = e + 1 := by rw [Nat.mul_add_div hb, Nat.div_eq_of_lt hr, Nat.add_zero]
  have p4 : (bn * (e + 1) + r) % bn = r := by rw [Nat.mul_add_mod, Nat.mod_eq_of_lt hr]
  simp only [p1, p2, p3, p4]
  rw [if_neg (by omega), if_pos hlt]
  congr 1
  omega

theorem read_zero : Ieee.double.read 0 = .number false 0 (-1074) := by decide +kernel

theorem n_bounds {n : Nat} (h0 : n ≠ 0) (hn : n ≤ 4294967296) : n.log2 ≤ 32 ∧ 2 ^ tF ≤ n * 2 ^ (tF - n.log2) ∧ n * 2 ^ (tF - n.log2) < 2 ^ (tF + 1) := by
  have hL : n.log2 < 33 := (Nat.log2_lt h0).2 (by omega)
  have a : 2 ^ n.log2 ≤ n := (Nat.le_log2 h0).1 (Nat.le_refl _)
  have b : n < 2 ^ (n.log2 + 1) := (Nat.log2_lt h0).1 (Nat.lt_succ_self _)
  have ht := tF_eq
  refine ⟨by omega, ?_, ?_⟩
  · have := Nat.mul_le_mul_right (2 ^ (tF - n.log2)) a
    rwa [← Nat.pow_add, show n.log2 + (tF - n.log2) = tF by omega] at this
  · have := Nat.mul_lt_mul_of_pos_right b (Nat.two_pow_pos (tF - n.log2))
    rwa [← Nat.pow_add, show n.log2 + 1 + (tF - n.log2) = tF + 1 by omega] at this

theorem read_shB {n : Nat} (h0 : n ≠ 0) (hn : n ≤ 4294967296) : Ieee.double.read (shB n) = .number false (n * 2 ^ (tF - n.log2)) ((n.log2 : Int) - 84) := by
  obtain ⟨b0, b1, b2⟩ := n_bounds h0 hn
  unfold shB
  rw [if_neg h0]
  exact read_wrd b1 b2 (by omega) (by omega)
theorem read_shB0 : Ieee.double.read (shB 0) = .number false 0 (-1074) := read_zero

theorem ofInt_word {n : Nat} (h0 : n ≠ 0) (hn : n ≤ 4294967296) : Ieee.double.nearest false n 0 = wrd (n * 2 ^ (tF - n.log2)) ((n.log2 : Int) - 52) := by
  obtain ⟨b0, b1, b2⟩ := n_bounds h0 hn
  have ht := tF_eq
  have := near_up (E := (n.log2 : Int) - 52) (k := tF - n.log2) rfl (by omega) b1 b2 (by omega) (by omega)
  rwa [show (n.log2 : Int) - 52 + ((tF - n.log2 : Nat) : Int) = 0 by omega] at this

theorem div_zero : Ieee.double.div (Ieee.double.nearest false 0 0) 4751297606875873280 = some 0 := by decide +kernel
theorem read_c : Ieee.double.read 4751297606875873280 = .number false (2 ^ tF) (-20) := by rw [tF_eq]; decide +kernel
theorem div_word {n : Nat} (hn : n ≤ 4294967296) : Ieee.double.div (Ieee.double.nearest false n 0) 4751297606875873280 = some (shB n) := by
  by_cases h0 : n = 0
  · subst h0
    exact div_zero
  · obtain ⟨C, hC⟩ : ∃ C, 4751297606875873280 = C := ⟨_, rfl⟩
    have hc := read_c
    rw [hC] at hc ⊢
    clear hC
    unfold Ieee.Format.div
    rw [hc]
    obtain ⟨b0, b1, b2⟩ := n_bounds h0 hn
    have hr : Ieee.double.read (Ieee.double.nearest false n 0) = .number false (n * 2 ^ (tF - n.log2)) ((n.log2 : Int) - 52) := by
      rw [ofInt_word h0 hn]
      exact read_wrd b1 b2 (by omega) (by omega)
    rw [hr]
    obtain ⟨M, hM⟩ : ∃ M, n * 2 ^ (tF - n.log2) = M := ⟨_, rfl⟩
    rw [hM] at b1 b2 ⊢
    have hlM : M.log2 = tF := log2_of b1 b2
    have hl2 : (2 ^ tF : Nat).log2 = tF := Nat.log2_two_pow
    have hp := Nat.two_pow_pos tF
    unfold Ieee.Datum.quotient
    have hp0 : ¬ (2 ^ tF : Nat) = 0 := by omega
    simp only [if_neg hp0, dbl_frac, hlM, hl2, Nat.shiftLeft_eq, Option.map_some]
    have e0 : (2 : Nat) ^ (tF + 2 + tF - tF) = 4 * 2 ^ tF := by rw [show tF + 2 + tF - tF = tF + 2 by omega, Nat.pow_add, Nat.mul_comm]
    have e1 : M * 2 ^ (tF + 2 + tF - tF) / 2 ^ tF = M * 4 := by
      rw [e0, ← Nat.mul_assoc]
      exact Nat.mul_div_cancel _ hp
    have e2 : M * 2 ^ (tF + 2 + tF - tF) % 2 ^ tF = 0 := by
      rw [e0, ← Nat.mul_assoc]
      exact Nat.mul_mod_left _ _
    rw [e1, e2]
    have e3 : 2 * (M * 4) + ((0 : Nat) != 0).toNat = M * 2 ^ 3 := by
      show 2 * (M * 4) + 0 = M * 8
      omega
    rw [e3]
    unfold Ieee.Format.write
    have ht := tF_eq
    have := near_down (E := (n.log2 : Int) - 84) (k := 3) b1 b2 (by omega) (by omega)
    have e4 : ((n.log2 : Int) - 52 - -20 - ((tF + 2 + tF - tF : Nat) : Int) - 1) = (n.log2 : Int) - 84 - ((3 : Nat) : Int) := by omega
    have e5 : (false ^^ false) = false := rfl
    simp only [e5]
    rw [e4, this]
    unfold shB
    rw [if_neg h0, hM]

theorem share_word {n : Int} (h0 : 0 ≤ n) (hn : n ≤ 4294967296) : floatBits .quo .f64 (floatOfInt .f64 n) 4751297606875873280 = some (shB n.toNat) := by
  have : floatOfInt .f64 n = Ieee.double.nearest false n.toNat 0 := by
    obtain ⟨m, rfl⟩ := Int.eq_ofNat_of_zero_le h0
    have hd : decide (((m : Int)) < 0) = false := by simp
    show Ieee.double.nearest (decide (((m : Int)) < 0)) (m : Int).natAbs 0 = _
    rw [hd]
    rfl
  rw [this]
  exact div_word (by omega)

theorem signed_pos (m k : Nat) : Ieee.signed false m k = ((m * 2 ^ k : Nat) : Int) := by
  unfold Ieee.signed
  rw [Nat.shiftLeft_eq]
  rfl

theorem cmp_mul {a b c : Nat} (hc : 0 < c) : compare ((a * c : Nat) : Int) ((b * c : Nat) : Int) = compare a b := by
  rcases Nat.lt_trichotomy a b with h | h | h
  · have h2 : ((a * c : Nat) : Int) < ((b * c : Nat) : Int) := Int.ofNat_lt.2 (Nat.mul_lt_mul_of_pos_right h hc)
    rw [Int.compare_eq_lt.2 h2, Nat.compare_eq_lt.2 h]
  · subst h
    rw [Int.compare_eq_eq.2 rfl, Nat.compare_eq_eq.2 rfl]
  · have h2 : ((b * c : Nat) : Int) < ((a * c : Nat) : Int) := Int.ofNat_lt.2 (Nat.mul_lt_mul_of_pos_right h hc)
    rw [Int.compare_eq_gt.2 h2, Nat.compare_eq_gt.2 h]

/-- How a part reads: a number of units of a place that both have. -/
theorem sh_read {n : Nat} (hn : n ≤ 4294967296) : ∃ (m : Nat) (p : Int), Ieee.double.read (shB n) = .number false m p ∧ -1074 ≤ p ∧ p ≤ -52 ∧ (n ≠ 0 → -84 ≤ p) ∧ ∀ b : Int, b ≤ p → -1074 ≤ b → m * 2 ^ (p - b).toNat = n * 2 ^ (-32 - b).toNat := by
  by_cases h0 : n = 0
  · subst h0
    exact ⟨0, -1074, read_shB0, by omega, by omega, fun h => absurd rfl h, fun b hb _ => by simp⟩
  · obtain ⟨b0, b1, b2⟩ := n_bounds h0 hn
    have ht := tF_eq
    refine ⟨_, _, read_shB h0 hn, by omega, by omega, fun _ => by omega, fun b hb hb2 => ?_⟩
    rw [Nat.mul_assoc, ← Nat.pow_add]
    rw [show tF - n.log2 + ((n.log2 : Int) - 84 - b).toNat = (-32 - b).toNat by omega]

theorem order_sh {a b : Nat} (ha : a ≤ 4294967296) (hb : b ≤ 4294967296) : Ieee.double.order (shB a) (shB b) = some (compare a b) := by
  obtain ⟨m, i, e1, i1, i2, _, k1⟩ := sh_read ha
  obtain ⟨n, j, e2, j1, j2, _, k2⟩ := sh_read hb
  unfold Ieee.Format.order
  rw [e1, e2]
  unfold Ieee.Datum.order
  simp only [signed_pos]
  rw [k1 (min i j) (Int.min_le_left _ _) (by omega), k2 (min i j) (Int.min_le_right _ _) (by omega), cmp_mul (Nat.two_pow_pos _)]

theorem near_zero (s : Int) : Ieee.double.write (.number (false && false) ((0 : Nat) : Int).natAbs s) = shB 0 := by
  show Ieee.double.nearest false 0 s = shB 0
  unfold Ieee.Format.nearest shB
  rw [if_pos rfl, if_pos rfl, dbl_word]
theorem add_sh {a b : Nat} (h : a + b ≤ 4294967296) : Ieee.double.add (shB a) (shB b) = some (shB (a + b)) := by
  obtain ⟨m, i, e1, i1, i2, i3, k1⟩ := sh_read (n := a) (by omega)
  obtain ⟨n, j, e2, j1, j2, j3, k2⟩ := sh_read (n := b) (by omega)
  unfold Ieee.Format.add
  rw [e1, e2]
  unfold Ieee.Datum.sum
  simp only [signed_pos, Option.map_some]
  obtain ⟨s, hs⟩ : ∃ s, min i j = s := ⟨_, rfl⟩
  have s1 : s ≤ i := by omega
  have s2 : s ≤ j := by omega
  have s3 : -1074 ≤ s := by omega
  rw [hs, k1 s s1 s3, k2 s s2 s3]
  have ht : ((a * 2 ^ (-32 - s).toNat : Nat) : Int) + ((b * 2 ^ (-32 - s).toNat : Nat) : Int) = (((a + b) * 2 ^ (-32 - s).toNat : Nat) : Int) := by
    rw [Nat.add_mul]; rfl
  rw [ht]
  have hp := Nat.two_pow_pos (-32 - s).toNat
  by_cases h0 : a + b = 0
  · have ha : a = 0 := by omega
    have hb : b = 0 := by omega
    subst ha hb
    rw [h0]
    rw [Nat.zero_mul, if_pos (by rfl)]
    exact congrArg some (near_zero s)
  · have hpos : 0 < (a + b) * 2 ^ (-32 - s).toNat := Nat.mul_pos (by omega) hp
    have g1 : ¬ (((a + b) * 2 ^ (-32 - s).toNat : Nat) : Int) = 0 := by omega
    have g2 : decide ((((a + b) * 2 ^ (-32 - s).toNat : Nat) : Int) < 0) = false := decide_eq_false (by omega)
    rw [if_neg g1, g2, Int.natAbs_natCast]
    unfold Ieee.Format.write
    obtain ⟨b0, b1, b2⟩ := n_bounds h0 h
    have hsl : s ≤ ((a + b).log2 : Int) - 84 := by
      rcases Nat.eq_zero_or_pos a with ha | ha
      · have hb : b ≠ 0 := by omega
        subst ha
        rw [Nat.zero_add]
        have e3 := read_shB hb (by omega)
        rw [e2] at e3
        obtain ⟨-, -, h3⟩ := Ieee.Datum.number.inj e3
        omega
      · have e3 := read_shB (n := a) (by omega) (by omega)
        rw [e1] at e3
        obtain ⟨-, -, h3⟩ := Ieee.Datum.number.inj e3
        have : a.log2 ≤ (a + b).log2 := by
          refine (Nat.le_log2 h0).2 ?_
          have := (Nat.le_log2 (n := a) (by omega)).1 (Nat.le_refl _)
          omega
        omega
    have := near_down (M := (a + b) * 2 ^ (tF - (a + b).log2)) (E := ((a + b).log2 : Int) - 84) (k := (((a + b).log2 : Int) - 84 - s).toNat) b1 b2 (by omega) (by omega)
    have e5 : (a + b) * 2 ^ (tF - (a + b).log2) * 2 ^ (((a + b).log2 : Int) - 84 - s).toNat = (a + b) * 2 ^ (-32 - s).toNat := by
      have ht := tF_eq
      rw [Nat.mul_assoc, ← Nat.pow_add]
      rw [show tF - (a + b).log2 + (((a + b).log2 : Int) - 84 - s).toNat = (-32 - s).toNat by omega]
    have e6 : ((a + b).log2 : Int) - 84 - ((((a + b).log2 : Int) - 84 - s).toNat : Int) = s := by omega
    rw [e5, e6] at this
    simp only [this]
    unfold shB
    rw [if_neg h0]

theorem sh_one : shB 4294967296 = 4607182418800017408 := by decide +kernel
end Rg
end Go.Proofs.Ytohfboolicheeaa
