/-
  PLAIN LAWS: the logarithm: halving and doubling until the number lies between 0.75 and 1.5; the series; its bounds. (No program here.)
-/
import Derived.Test.YtkcdccfajjhacaaLaw2
set_option exponentiation.threshold 5000
set_option linter.unusedVariables false
set_option linter.unusedSimpArgs false
namespace Go.Fl
open Go Ieee

/-- halved, exactly -/
theorem near_half {X : Nat} (hX : Fin64 X) : Near (fop .quo .f64 X 4611686018427387904) (mv X) 2 ∧ sg (fop .quo .f64 X 4611686018427387904) = sg X := by
  obtain ⟨m, i, h1, h2, h3, h4⟩ := hX.read
  have g1 : double.read 4611686018427387904 = .number false 4503599627370496 (-51) := by decide +kernel
  obtain ⟨more, hmore⟩ : ∃ more, more = 54 + (4503599627370496 : Nat).log2 - m.log2 := ⟨_, rfl⟩
  have hl2 : (4503599627370496 : Nat).log2 = 52 := by decide +kernel
  have hL : m.log2 ≤ 52 := by
    rcases Nat.eq_zero_or_pos m with g | g
    · rw [g]; decide
    · have := (Nat.log2_lt (by omega : m ≠ 0)).2 (show m < 2 ^ 53 by omega)
      omega
  have hm54 : 54 ≤ more := by omega
  have e0 : (2 : Nat) ^ more = 2 ^ (more - 52) * 4503599627370496 := by
    rw [show (4503599627370496 : Nat) = 2 ^ 52 by decide +kernel, ← Nat.pow_add]
    congr 1; omega
  have hD : m <<< more = m * 2 ^ (more - 52) * 4503599627370496 := by rw [Nat.shiftLeft_eq, e0, Nat.mul_assoc]
  have hdiv : (m <<< more) / 4503599627370496 = m * 2 ^ (more - 52) := by rw [hD]; exact Nat.mul_div_cancel _ (by omega)
  have hmod : (m <<< more) % 4503599627370496 = 0 := by rw [hD]; exact Nat.mul_mod_left _ _
  have hf : floatBits .quo .f64 X 4611686018427387904 = some (double.nearest (sg X) (2 * (m * 2 ^ (more - 52))) (i - -51 - more - 1)) := by
    show ((double.read X).quotient 54 (double.read 4611686018427387904)).map double.write = _
    rw [h1, g1]
    simp only [Datum.quotient, Option.map_some, Format.write, ← hmore, hdiv, hmod]
    rw [if_neg (by decide)]
    cases sg X <;> rfl
  rw [fop_some hf]
  refine near_nearest _ _ _ _ _ (by omega) ?_
  rw [← h3]
  obtain ⟨a, ha⟩ : ∃ a : Nat, (i - -51 - more - 1 - -1074).toNat = a := ⟨_, rfl⟩
  obtain ⟨b, hb⟩ : ∃ b : Nat, (-1074 - (i - -51 - more - 1)).toNat = b := ⟨_, rfl⟩
  obtain ⟨I, hI⟩ : ∃ I : Nat, (i - -1074).toNat = I := ⟨_, rfl⟩
  rw [ha, hb, hI]
  have hs : more - 52 + a + 2 = I + b := by omega
  have e1 : 2 * (m * 2 ^ (more - 52)) * 2 ^ a * 2 = m * 2 ^ (more - 52 + a + 2) := by
    rw [Nat.pow_add, Nat.pow_add]
    rw [show (2 : Nat) ^ 2 = 2 * 2 from rfl]
    ac_rfl
  rw [e1, hs, Nat.pow_add, Nat.mul_assoc]

theorem two_mv : mv 4611686018427387904 = 2 ^ 1075 := by decide +kernel
theorem two_fin : Fin64 4611686018427387904 := by unfold Fin64; decide
theorem two_sg : sg 4611686018427387904 = false := by decide +kernel

def dn : Nat → Nat → Nat → Nat × Nat
  | 0, X, n => (X, n)
  | k + 1, X, n => if fge .f64 X 4609434218613702656 then dn k (fop .quo .f64 X 4611686018427387904) (n + 1) else (X, n)
def up : Nat → Nat → Nat → Nat × Nat
  | 0, X, n => (X, n)
  | k + 1, X, n => if flt .f64 X 4604930618986332160 then up k (fop .mul .f64 X 4611686018427387904) (n + 1) else (X, n)

theorem svd_eq (X : Nat) : sv double X = svd X := by
  unfold sv svd sg mv
  rw [rgd]

theorem not_nan {X : Nat} (h : Fin64 X) : isn .f64 X = false := by rw [isn64]; unfold Fin64 at h; exact decide_eq_false (by omega)

/-- comparing finite words -/
theorem fge_fin {X Y : Nat} (hX : Fin64 X) (hY : Fin64 Y) : fge .f64 X Y = decide (svd Y ≤ svd X) := by
  rw [Bool.eq_iff_iff, decide_eq_true_eq, fge_iff, show FloatKind.f64.format = double from rfl, svd_eq, svd_eq]
  simp [not_nan hX, not_nan hY]
theorem flt_fin {X Y : Nat} (hX : Fin64 X) (hY : Fin64 Y) : flt .f64 X Y = decide (svd X < svd Y) := by
  rw [Bool.eq_iff_iff, decide_eq_true_eq, flt_iff, show FloatKind.f64.format = double from rfl, svd_eq, svd_eq]
  simp [not_nan hX, not_nan hY]
theorem fgt_fin {X Y : Nat} (hX : Fin64 X) (hY : Fin64 Y) : fgt .f64 X Y = decide (svd Y < svd X) := by
  rw [Bool.eq_iff_iff, decide_eq_true_eq, fgt_iff, show FloatKind.f64.format = double from rfl, svd_eq, svd_eq]
  simp [not_nan hX, not_nan hY]

theorem svd_pos {X : Nat} (h : sg X = false) : svd X = (mv X : Int) := by unfold svd; rw [h]; rfl

theorem c15_val : svd 4609434218613702656 = 3 * 2 ^ 1073 := by decide +kernel
theorem c15_fin : Fin64 4609434218613702656 := by unfold Fin64; decide
theorem c075_val : svd 4604930618986332160 = 3 * 2 ^ 1072 := by decide +kernel
theorem c075_fin : Fin64 4604930618986332160 := by unfold Fin64; decide
theorem one_val : svd 4607182418800017408 = 2 ^ 1074 := by decide +kernel
theorem one_bd : Bd 4607182418800017408 1074 := ⟨by decide, by unfold Fin64; decide, by decide +kernel⟩

/-- one halving more -/
theorem half_step {X k : Nat} (hb : Bd X (1074 + (k + 1))) (hs : sg X = false) (hlo : 2 ^ 925 ≤ mv X) (hg : fge .f64 X 4609434218613702656 = true) (hk : k ≤ 200) :
    Bd (fop .quo .f64 X 4611686018427387904) (1074 + k) ∧ sg (fop .quo .f64 X 4611686018427387904) = false ∧ 2 ^ 925 ≤ mv (fop .quo .f64 X 4611686018427387904) := by
  obtain ⟨h1, h2⟩ := near_half hb.2.1
  refine ⟨h1.bd (by omega) ?_, by rw [h2, hs], h1.lo (by omega) ?_⟩
  · have := hb.2.2
    rw [show 1074 + (k + 1) = (1074 + k) + 1 by omega, Nat.pow_succ] at this
    exact this
  · rw [fge_fin hb.2.1 c15_fin, decide_eq_true_eq, c15_val, svd_pos hs] at hg
    have e : (3 * 2 ^ 1073 : Int) = ((3 * 2 ^ 1073 : Nat) : Int) := by norm_cast
    rw [e] at hg
    have hg' := Int.ofNat_le.1 hg
    have h3 : (2 : Nat) ^ 925 * 2 ≤ 3 * 2 ^ 1073 := by decide +kernel
    omega

theorem half_end {X : Nat} (hb : Bd X 1074) (hs : sg X = false) : fge .f64 X 4609434218613702656 = false := by
  rw [fge_fin hb.2.1 c15_fin, decide_eq_false_iff_not, c15_val, svd_pos hs]
  have e : (3 * 2 ^ 1073 : Int) = ((3 * 2 ^ 1073 : Nat) : Int) := by norm_cast
  rw [e, Int.ofNat_le]
  have h3 : (2 : Nat) ^ 1074 < 3 * 2 ^ 1073 := by decide +kernel
  have := hb.2.2
  omega

/-- one doubling more -/
theorem double_step {X k : Nat} (hb : Bd X 1075) (hs : sg X = false) (hlo : 2 ^ (1074 - (k + 1)) ≤ mv X) (hg : flt .f64 X 4604930618986332160 = true) (hk : k + 1 ≤ 1074) :
    Bd (fop .mul .f64 X 4611686018427387904) 1075 ∧ sg (fop .mul .f64 X 4611686018427387904) = false ∧ 2 ^ (1074 - k) ≤ mv (fop .mul .f64 X 4611686018427387904) := by
  obtain ⟨h1, h2⟩ := near_mul hb.2.1 two_fin
  rw [two_mv] at h1
  refine ⟨h1.bd (by omega) ?_, by rw [h2, hs, two_sg]; rfl, h1.lo (by omega) ?_⟩
  · rw [flt_fin hb.2.1 c075_fin, decide_eq_true_eq, c075_val, svd_pos hs] at hg
    have e : (3 * 2 ^ 1072 : Int) = ((3 * 2 ^ 1072 : Nat) : Int) := by norm_cast
    rw [e] at hg
    have hg' := Int.ofNat_lt.1 hg
    have h3 : 3 * 2 ^ 1072 ≤ (2 : Nat) ^ 1074 := by decide +kernel
    have h4 : mv X ≤ 2 ^ 1074 := by omega
    have h5 := Nat.mul_le_mul_right (2 ^ 1075) h4
    rw [Nat.mul_comm (2 ^ 1075)]
    exact h5
  · have h5 := Nat.mul_le_mul_right (2 ^ 1075) hlo
    refine Nat.le_trans (Nat.le_of_eq ?_) h5
    rw [← Nat.pow_add, ← Nat.pow_add]
    congr 1
    omega

theorem double_end {X : Nat} (hb : Bd X 1075) (hs : sg X = false) (hlo : 2 ^ 1074 ≤ mv X) : flt .f64 X 4604930618986332160 = false := by
  rw [flt_fin hb.2.1 c075_fin, decide_eq_false_iff_not, c075_val, svd_pos hs]
  have e : (3 * 2 ^ 1072 : Int) = ((3 * 2 ^ 1072 : Nat) : Int) := by norm_cast
  rw [e, Int.ofNat_lt]
  have h3 : 3 * 2 ^ 1072 ≤ (2 : Nat) ^ 1074 := by decide +kernel
  omega

end Go.Fl
